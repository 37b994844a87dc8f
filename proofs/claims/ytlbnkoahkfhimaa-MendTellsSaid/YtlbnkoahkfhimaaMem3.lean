/- More words for memory: a slice whose elements lie apart, so that a store into one leaves the others; records in slices; arrays as values. No program in sight. -/
import Derived.Test.YtlbnkoahkfhimaaMem2
import Derived.Test.YtlbnkoahkfhimaaPureA
namespace Go.Proofs.Ytlbnkoahkfhimaa.M
set_option linter.unusedVariables false
open Go Go.RowKit
theorem heap_lt {w w' : World} {k : Nat} (h : w'.heap[k]? = w.heap[k]?) (hk : k < w.heap.size) : k < w'.heap.size := by
  rw [Array.getElem?_eq_getElem hk] at h
  exact (Array.getElem?_eq_some_iff.1 h).1
theorem RdL.map_ {α β : Type} {R : Rel α} {R' : Rel β} {w : World} {F F' : Fp} {v : Value} {xs : List α} (f : α → β) (h : RdL R w F v xs) (hF : ∀ k, F k → F' k) (hm : ∀ u x, x ∈ xs → R w F u x → R' w F' u (f x)) : RdL R' w F' v (xs.map f) := by
  obtain ⟨us, h1, h2, h3⟩ := h
  refine ⟨us, h1.mono hF, by simpa using h2, fun j u x hu hx => ?_⟩
  rw [List.getElem?_map] at hx
  obtain ⟨y, hy, rfl⟩ := Option.map_eq_some_iff.1 hx
  exact hm u y (List.mem_of_getElem? hy) (h3 j u y hu hy)
/-- One of its elements, where the slice's block is told. -/
theorem RdL_q {α : Type} {R : Rel α} {w : World} {F : Fp} {xs : List α} {b off n c : Nat} (h : RdL R w F (.slice (some ⟨b, off, none⟩) n c) xs) {k : Nat} {x : α} (hk : xs[k]? = some x) : ∃ u, w.cell? ⟨b, off + k, none⟩ = some u ∧ R w F u x := by
  obtain ⟨hlt, hx⟩ := List.getElem?_eq_some_iff.1 hk
  obtain ⟨b', off', u, hA, _, hu, hR⟩ := h.at_ hlt
  injection hA with hA
  injection hA with e1 e2
  subst e1; subst e2
  exact ⟨u, hu, hx ▸ hR⟩
/-- The shape of a slice that is not empty. -/
theorem RdL.form {α : Type} {R : Rel α} {w : World} {F : Fp} {v : Value} {xs : List α} (h : RdL R w F v xs) (hn : 0 < xs.length) : ∃ b off c, v = .slice (some ⟨b, off, none⟩) xs.length c ∧ F b ∧ b < w.heap.size ∧ xs.length ≤ c ∧ c ≤ maxLen := by
  obtain ⟨A, c, rfl, h1, h2⟩ := h.shape
  obtain ⟨b, off, u, rfl, hF, hu, _⟩ := h.at_ hn
  exact ⟨b, off, c, rfl, hF, World.block_lt_of_cell? _ _ hu, h1, h2⟩
theorem ownsRow_keep {w w' : World} {base : Nat} {e : TypeId} {size : Nat} {v : Value} {n : Nat} {xs : List Value} (h : w.ownsRow base e size v n xs) (hk : ∀ k, v.ownBlock = some k → w'.heap[k]? = w.heap[k]?) : w'.ownsRow base e size v n xs := by
  refine ⟨h.1, ?_⟩
  rcases h.2 with h0 | ⟨g, cap, cur, hv, hb, hg, r⟩
  · exact .inl h0
  · subst hv
    exact .inr ⟨g, cap, cur, rfl, hb, (hk g rfl).trans hg, r⟩
section
variable {α : Type} {R : Rel α} {E : TypeId} {w w' : World} {base : Nat} {F G : Fp} {v : Value} {xs : List α}
theorem Bld.keepF (o : Ok R) (h : Bld R E w base G v xs) (hv : ∀ k, v.ownBlock = some k → w'.heap[k]? = w.heap[k]?) (hG : ∀ k, some k ≠ v.ownBlock → G k → k < w.heap.size → w'.heap[k]? = w.heap[k]?) : Bld R E w' base G v xs := by
  obtain ⟨us, h1, h2, h3⟩ := h
  exact ⟨us, ownsRow_keep h1 hv, h2, fun j u x hu hx => o.keep (h3 j u x hu hx) fun k hk hl => hG k hk.1 hk.2 hl⟩
/-- A slice that may be stored into: its own block lies in F too. -/
def OwnV (R : Rel α) (E : TypeId) : Rel (List α) := fun w F v xs => Bld R E w 0 F v xs ∧ ∀ k, v.ownBlock = some k → F k
theorem Bld.one' (h : Bld R E w base G v xs) : v.oneCell' = true := by
  obtain ⟨us, h1, _⟩ := h
  rcases h1.2 with ⟨rfl, _⟩ | ⟨g, cap, cur, rfl, _⟩ <;> rfl
theorem okV (o : Ok R) : Ok (OwnV R E) where
  mono := fun h hm => ⟨h.1.mono o fun k _ hk => hm k hk, fun k hk => hm k (h.2 k hk)⟩
  keep := fun h hk => ⟨h.1.keepF o (fun k hk' => hk k (h.2 k hk') (h.1.blk k hk').2) fun k _ hG hl => hk k hG hl, h.2⟩
  lt := fun h => ⟨h.1.lt o, fun k hk => ⟨h.2 k hk, (h.1.blk k hk).2⟩⟩
  one := fun h => h.1.one'
theorem OwnV.toRd (o : Ok R) (h : OwnV R E w F v xs) : RdL R w F v xs := by
  obtain ⟨us, h1, h2, h3⟩ := h.1
  refine ⟨us, ?_, h2, fun j u x hu hx => o.mono (h3 j u x hu hx) fun k hk => hk.2⟩
  rcases h1.2 with ⟨rfl, h0⟩ | ⟨g, cap, cur, rfl, hb, _, hn, hm, _, _⟩
  · exact ⟨none, 0, by rw [h0], by omega, by simp [maxLen], fun hp => by omega⟩
  · refine ⟨_, cap, rfl, hn, hm, fun _ => ⟨g, 0, rfl, h.2 g rfl, fun j u hu => ?_⟩⟩
    have := h1.cells rfl j u hu
    have hadd : (⟨g, 0, none⟩ : Addr).add j = ⟨g, 0 + j, none⟩ := by unfold Addr.add; split <;> simp_all
    rwa [hadd] at this
theorem OwnV.of (h : Bld R E w base G v xs) (o : Ok R) (hb : ∀ k, base ≤ k → F k) (hG : ∀ k, G k → F k) : OwnV R E w F v xs :=
  ⟨(h.base_ (Nat.zero_le _)).mono o fun k _ hk => hG k hk, fun k hk => hb k (h.blk k hk).1⟩
/-- With the element's blocks told. -/
def G1 (R : Rel α) : Rel (α × Fp) := fun w F u x => R w x.2 u x.1 ∧ ∀ k, x.2 k → F k ∧ k < w.heap.size
theorem okG (o : Ok R) : Ok (G1 R) where
  mono := fun h hm => ⟨h.1, fun k hk => ⟨hm k (h.2 k hk).1, (h.2 k hk).2⟩⟩
  keep := fun h hk => ⟨o.keep h.1 fun k hx hl => hk k (h.2 k hx).1 hl, fun k hx => ⟨(h.2 k hx).1, heap_lt (hk k (h.2 k hx).1 (h.2 k hx).2) (h.2 k hx).2⟩⟩
  lt := fun h => ⟨h.1, fun k hk => ⟨h.2 k hk, (h.2 k hk).2⟩⟩
  one := fun h => o.one h.1
/-- No two have a block in common. -/
def Apart (fs : List Fp) : Prop := ∀ (i j : Nat) (f g : Fp), fs[i]? = some f → fs[j]? = some g → i ≠ j → ∀ k, f k → ¬ g k
theorem Apart.snoc {fs : List Fp} (h : Apart fs) {f : Fp} (hf : ∀ g, g ∈ fs → ∀ k, g k → ¬ f k) : Apart (fs ++ [f]) := by
  intro i j a b hi hj hij k ha hb
  rcases Nat.lt_or_ge i fs.length with h1 | h1 <;> rcases Nat.lt_or_ge j fs.length with h2 | h2
  · rw [List.getElem?_append_left h1] at hi
    rw [List.getElem?_append_left h2] at hj
    exact h i j a b hi hj hij k ha hb
  · rw [List.getElem?_append_left h1] at hi
    rw [List.getElem?_append_right h2] at hj
    have : j - fs.length = 0 := by have := (List.getElem?_eq_some_iff.1 hj).1; simp at this; omega
    rw [this] at hj
    simp at hj
    subst hj
    exact hf a (List.mem_of_getElem? hi) k ha hb
  · rw [List.getElem?_append_right h1] at hi
    rw [List.getElem?_append_left h2] at hj
    have : i - fs.length = 0 := by have := (List.getElem?_eq_some_iff.1 hi).1; simp at this; omega
    rw [this] at hi
    simp at hi
    subst hi
    exact hf b (List.mem_of_getElem? hj) k hb ha
  · have h3 := (List.getElem?_eq_some_iff.1 hi).1
    have h4 := (List.getElem?_eq_some_iff.1 hj).1
    simp at h3 h4
    omega
theorem Apart.set {fs : List Fp} (h : Apart fs) {j : Nat} {f : Fp} (hf : ∀ (i : Nat) (g : Fp), fs[i]? = some g → i ≠ j → ∀ k, g k → ¬ f k) : Apart (fs.set j f) := by
  intro a b p q ha hb hab k hp hq
  by_cases h1 : a = j
  · subst h1
    have hl : a < fs.length := by have := (List.getElem?_eq_some_iff.1 ha).1; simpa using this
    rw [List.getElem?_set_self hl] at ha
    injection ha with ha
    subst ha
    rw [List.getElem?_set_ne hab] at hb
    exact hf b q hb (Ne.symm hab) k hq hp
  · rw [List.getElem?_set_ne (Ne.symm h1)] at ha
    by_cases h2 : b = j
    · subst h2
      have hl : b < fs.length := by have := (List.getElem?_eq_some_iff.1 hb).1; simpa using this
      rw [List.getElem?_set_self hl] at hb
      injection hb with hb
      subst hb
      exact hf a p ha h1 k hp hq
    · rw [List.getElem?_set_ne (Ne.symm h2)] at hb
      exact h a b p q ha hb hab k hp hq
/-- A slice whose elements lie apart. -/
def OwnL (R : Rel α) (E : TypeId) : Rel (List α) := fun w F v xs => ∃ fs : List Fp, fs.length = xs.length ∧ Apart fs ∧ OwnV (G1 R) E w F v (xs.zip fs)
theorem okO (o : Ok R) : Ok (OwnL R E) where
  mono := fun ⟨fs, h1, h2, h3⟩ hm => ⟨fs, h1, h2, (okV (okG o)).mono h3 hm⟩
  keep := fun ⟨fs, h1, h2, h3⟩ hk => ⟨fs, h1, h2, (okV (okG o)).keep h3 hk⟩
  lt := fun ⟨fs, h1, h2, h3⟩ => ⟨fs, h1, h2, (okV (okG o)).lt h3⟩
  one := fun ⟨_, _, _, h3⟩ => (okV (okG o)).one h3
theorem zip_fst {β : Type} (xs : List α) (fs : List β) (h : fs.length = xs.length) : (xs.zip fs).map Prod.fst = xs := by
  rw [List.map_fst_zip (by omega)]
theorem OwnL.toRd (o : Ok R) {R' : Rel α} (hR : ∀ {F u x}, R w F u x → R' w F u x) (ho : Ok R') (h : OwnL R E w F v xs) : RdL R' w F v xs := by
  obtain ⟨fs, h1, h2, h3⟩ := h
  have := (h3.toRd (okG o)).map_ (R' := R') (F' := F) Prod.fst (fun _ hk => hk) fun u x _ hx => ho.mono (hR hx.1) fun k hk => (hx.2 k hk).1
  rwa [zip_fst xs fs h1] at this
theorem Bld.imp {β : Type} {S : Rel β} (f : α → β) (h : Bld R E w base G v xs) (hm : ∀ {F u x}, R w F u x → S w F u (f x)) : Bld S E w base G v (xs.map f) := by
  obtain ⟨us, h1, h2, h3⟩ := h
  refine ⟨us, h1, by simpa using h2, fun j u x hu hx => ?_⟩
  rw [List.getElem?_map] at hx
  obtain ⟨y, hy, rfl⟩ := Option.map_eq_some_iff.1 hx
  exact hm (h3 j u y hu hy)
theorem OwnL.imp {S : Rel α} (h : OwnL R E w F v xs) (hm : ∀ {F u x}, R w F u x → S w F u x) : OwnL S E w F v xs := by
  obtain ⟨fs, h1, h2, h3⟩ := h
  refine ⟨fs, h1, h2, ?_, h3.2⟩
  have := h3.1.imp (S := G1 S) id fun {F u x} hx => ⟨hm hx.1, hx.2⟩
  simpa using this
/-- Its elements, with the blocks of each. -/
theorem OwnL.els (h : OwnL R E w F v xs) : ∃ fs : List Fp, fs.length = xs.length ∧ Apart fs ∧ ∀ j x f, xs[j]? = some x → fs[j]? = some f → (∀ k, f k → F k ∧ some k ≠ v.ownBlock ∧ k < w.heap.size) ∧ ∀ g n c, v = .slice (some ⟨g, 0, none⟩) n c → ∃ u, w.cell? ⟨g, j, none⟩ = some u ∧ R w f u x := by
  obtain ⟨fs, h1, h2, h3⟩ := h
  refine ⟨fs, h1, h2, fun j x f hx hf => ?_⟩
  obtain ⟨us, r1, r2, r3⟩ := h3.1
  have hlz : (xs.zip fs).length = xs.length := by simp [h1]
  have hj : j < us.length := by have := (List.getElem?_eq_some_iff.1 hx).1; omega
  have hz : (xs.zip fs)[j]? = some (x, f) := by rw [List.getElem?_zip_eq_some]; exact ⟨hx, hf⟩
  have hr := r3 j us[j] (x, f) (List.getElem?_eq_getElem hj) hz
  refine ⟨fun k hk => ⟨(hr.2 k hk).1.2, (hr.2 k hk).1.1, (hr.2 k hk).2⟩, fun g n c hv => ⟨us[j], ?_, hr.1⟩⟩
  subst hv
  have hn : n = us.length := by
    rcases r1.2 with ⟨hv, _⟩ | ⟨g', cap, cur, hv, _⟩
    · cases hv
    · injection hv
  subst hn
  rw [r1.cellAt j (by omega)]
  exact List.getElem?_eq_getElem hj
theorem OwnL.nil_ (R : Rel α) (E : TypeId) (w : World) (F : Fp) : OwnL R E w F (.slice none 0 0) [] :=
  ⟨[], rfl, fun i j f g hi => by simp at hi, Bld.nil_ _ _ _ _ _, fun k hk => by simp [Value.ownBlock] at hk⟩
theorem OwnL.blk (h : OwnL R E w F v xs) : ∀ k, v.ownBlock = some k → F k ∧ k < w.heap.size := by
  obtain ⟨fs, h1, h2, h3⟩ := h
  exact fun k hk => ⟨h3.2 k hk, (h3.1.blk k hk).2⟩
theorem OwnL.form (h : OwnL R E w F v xs) (hn : 0 < xs.length) : ∃ g c, v = .slice (some ⟨g, 0, none⟩) xs.length c ∧ F g ∧ g < w.heap.size ∧ xs.length ≤ c ∧ c ≤ maxLen := by
  obtain ⟨fs, h1, h2, h3⟩ := h
  have hl : (xs.zip fs).length = xs.length := by simp [h1]
  obtain ⟨g, c, hv, _, a, b, d⟩ := h3.1.form (by omega)
  rw [hl] at hv b
  exact ⟨g, c, hv, h3.2 g (by rw [hv]; rfl), a, b, d⟩
/-- One of them: it may turn inside its own blocks, and new ones, and the others are what they were. -/
theorem OwnL.inner (o : Ok R) {g n c : Nat} (h : OwnL R E w F (.slice (some ⟨g, 0, none⟩) n c) xs) {j : Nat} (hj : j < xs.length) :
    ∃ u f, w.cell? ⟨g, j, none⟩ = some u ∧ w.frozen? ⟨g, j, none⟩ = false ∧ R w f u xs[j] ∧ (∀ k, f k → F k ∧ k ≠ g ∧ k < w.heap.size) ∧
      ∀ (w' : World) (f' : Fp) (y : α), (∀ k, k < w.heap.size → ¬ f k → F k → w'.heap[k]? = w.heap[k]?) → R w' f' u y → (∀ k, f' k → (f k ∨ ¬ F k) ∧ k < w'.heap.size) →
        OwnL R E w' (fun k => F k ∨ f' k) (.slice (some ⟨g, 0, none⟩) n c) (xs.set j y) := by
  obtain ⟨fs, h1, h2, h3⟩ := h
  have hjz : j < (xs.zip fs).length := by simp; omega
  have hjf : j < fs.length := by omega
  obtain ⟨us, r1, r2, r3⟩ := h3.1
  have hn : n = us.length := by
    rcases r1.2 with ⟨hv, _⟩ | ⟨g', cap, cur, hv, _⟩
    · cases hv
    · injection hv
  have hju : j < us.length := by omega
  have hz : (xs.zip fs)[j]? = some (xs[j], fs[j]) := by rw [List.getElem?_eq_getElem hjz]; simp
  have hu := r3 j us[j] (xs[j], fs[j]) (List.getElem?_eq_getElem hju) hz
  have hgF : F g := h3.2 g rfl
  have hgl : g < w.heap.size := (h3.1.blk g rfl).2
  have hfj : ∀ k, fs[j] k → F k ∧ k ≠ g ∧ k < w.heap.size := fun k hk => by
    have := hu.2 k hk
    refine ⟨this.1.2, ?_, this.2⟩
    simpa [Value.ownBlock] using this.1.1
  subst hn
  refine ⟨us[j], fs[j], ?_, r1.frozenAt j, hu.1, hfj, fun w' f' y hw hy hf' => ?_⟩
  · rw [r1.cellAt j (by omega)]; exact List.getElem?_eq_getElem hju
  · have hkeep : ∀ k, k < w.heap.size → ¬ fs[j] k → F k → w'.heap[k]? = w.heap[k]? := hw
    have hgk : w'.heap[g]? = w.heap[g]? := hkeep g hgl (fun hc => (hfj g hc).2.1 rfl) hgF
    refine ⟨fs.set j f', by simp [h1], h2.set fun i p hi hij k hp hf => ?_, ⟨us, ownsRow_keep r1 fun k hk => ?_, by simpa [h1] using r2, fun i u x hui hxi => ?_⟩, fun k hk => .inl (h3.2 k hk)⟩
    · have hil : i < fs.length := (List.getElem?_eq_some_iff.1 hi).1
      have hxi : (xs.zip fs)[i]? = some (xs[i]'(by omega), p) := by
        rw [List.getElem?_eq_getElem (by simp; omega)]
        simp
        rw [List.getElem?_eq_getElem hil] at hi
        injection hi
      have hpk := (r3 i (us[i]'(by simp at r2; omega)) (xs[i]'(by omega), p) (List.getElem?_eq_getElem _) hxi).2 k hp
      rcases (hf' k hf).1 with hc | hc
      · exact h2 i j p fs[j] hi (List.getElem?_eq_getElem hjf) hij k hp hc
      · exact hc hpk.1.2
    · obtain rfl : g = k := by simpa [Value.ownBlock] using hk
      exact hgk
    · have hgne : ∀ k, fs[j] k → k ≠ g := fun k hk => (hfj k hk).2.1
      by_cases hij : i = j
      · subst hij
        have e1 : u = us[i] := by rw [List.getElem?_eq_getElem hju] at hui; exact (Option.some.inj hui).symm
        have e2 : x = (y, f') := by
          rw [List.getElem?_eq_getElem (by simp; omega)] at hxi
          have := Option.some.inj hxi
          rw [← this]
          simp
        subst e1; subst e2
        refine ⟨hy, fun k hk => ⟨⟨?_, ?_⟩, (hf' k hk).2⟩⟩
        · rcases (hf' k hk).1 with hc | hc
          · simpa [Value.ownBlock] using hgne k hc
          · simp only [Value.ownBlock, ne_eq, Option.some.injEq]
            exact fun e => hc (e ▸ hgF)
        · exact .inr hk
      · have hil : i < us.length := (List.getElem?_eq_some_iff.1 hui).1
        have hzl : (xs.zip fs).length = xs.length := by simp [h1]
        have hif : i < fs.length := by omega
        have hix : i < xs.length := by omega
        have hxo : (xs.zip fs)[i]? = some x := by
          rw [List.getElem?_eq_getElem (by simp; omega)] at hxi ⊢
          have := Option.some.inj hxi
          rw [← this]
          simp [List.getElem_set_ne (Ne.symm hij)]
        have hrx := r3 i u x hui hxo
        have hx2 : fs[i]? = some x.2 := by
          rw [List.getElem?_eq_getElem (by simp; omega)] at hxo
          have := Option.some.inj hxo
          rw [← this]
          simp
        refine (okG o).mono ((okG o).keep (F := fun k => x.2 k) ⟨hrx.1, fun k hk => ⟨hk, (hrx.2 k hk).2⟩⟩ fun k hk hl => hkeep k hl (fun hc => h2 i j x.2 fs[j] hx2 (List.getElem?_eq_getElem hjf) hij k hk hc) (hrx.2 k hk).1.2) fun k hk => ?_
        exact ⟨(hrx.2 k hk).1.1, .inl (hrx.2 k hk).1.2⟩
/-- A store of another element. -/
theorem OwnL.put (o : Ok R) {g n c : Nat} (h : OwnL R E w F (.slice (some ⟨g, 0, none⟩) n c) xs) {j : Nat} (hj : j < xs.length) {u : Value} {y : α} {f' : Fp} (hu : R w f' u y) (hf' : ∀ k, f' k → ¬ F k ∧ k < w.heap.size) :
    OwnL R E (w.setCell ⟨g, j, none⟩ u) (fun k => F k ∨ f' k) (.slice (some ⟨g, 0, none⟩) n c) (xs.set j y) := by
  obtain ⟨fs, h1, h2, h3⟩ := h
  have hjz : j < (xs.zip fs).length := by simp; omega
  have hg : F g := h3.2 g rfl
  have h3' : Bld (G1 R) E w 0 (fun k => F k ∨ f' k) (.slice (some ⟨g, 0, none⟩) n c) (xs.zip fs) := h3.1.mono (okG o) fun k _ hk => .inl hk
  have hset := h3'.set_ (okG o) hjz (u := u) (x := (y, f')) ⟨hu, fun k hk => ⟨⟨fun e => (hf' k hk).1 (e ▸ hg), .inr hk⟩, (hf' k hk).2⟩⟩
  have hz : (xs.zip fs).set j (y, f') = (xs.set j y).zip (fs.set j f') := by
    apply List.ext_getElem?
    intro i
    by_cases hij : i = j
    · subst hij
      rw [List.getElem?_set_self hjz, List.getElem?_eq_getElem (by simp; omega)]
      simp
    · rw [List.getElem?_set_ne (Ne.symm hij)]
      simp only [List.zip, List.getElem?_zipWith, List.getElem?_set_ne (Ne.symm hij)]
  rw [hz] at hset
  refine ⟨fs.set j f', by simp [h1], h2.set fun i p hi hij k hp hf => ?_, hset, fun k hk => .inl (h3.2 k hk)⟩
  obtain ⟨us, r1, r2, r3⟩ := h3.1
  have hil : i < fs.length := (List.getElem?_eq_some_iff.1 hi).1
  have hxi : (xs.zip fs)[i]? = some (xs[i]'(by omega), p) := by
    rw [List.getElem?_eq_getElem (by simp; omega)]
    simp
    rw [List.getElem?_eq_getElem hil] at hi
    injection hi
  have hpk := (r3 i (us[i]'(by simp at r2; omega)) (xs[i]'(by omega), p) (List.getElem?_eq_getElem _) hxi).2 k hp
  exact (hf' k hf).1 hpk.1.2
theorem ownsRow_up {w : World} {base b : Nat} {e : TypeId} {size : Nat} {v : Value} {n : Nat} {xs : List Value} (h : w.ownsRow base e size v n xs) (hb : ∀ k, v.ownBlock = some k → b ≤ k) : w.ownsRow b e size v n xs := by
  refine ⟨h.1, ?_⟩
  rcases h.2 with h0 | ⟨g, cap, cur, hv, _, r⟩
  · exact .inl h0
  · subst hv
    exact .inr ⟨g, cap, cur, rfl, hb g rfl, r⟩
theorem OwnV.bld {b : Nat} (h : OwnV R E w F v xs) (hF : ∀ k, F k → b ≤ k) : Bld R E w b F v xs := by
  obtain ⟨us, h1, h2, h3⟩ := h.1
  exact ⟨us, ownsRow_up h1 fun k hk => hF k (h.2 k hk), h2, h3⟩
end
section
variable {P : Program} {α : Type} {R : Rel α} {e : TypeId} {bytes : Nat}
/-- AT THE OPERATION 'append(v, x)', v the call's own, x laid just ahead of it. -/
theorem wpList_append_one {w : World} {ops : Array Oper} {rest : List Oper} {o : Oper} {a : Act} {Q : Exit → Act → World → Prop} (hgd : o.guard = none) (s x : Operand) (t : TypeId)
    (ho : o.op = .call { callee := .builtin .append, args := #[s, x], argTypes := #[t, t] }) (ok : Ok R) (T : SlTy P t e bytes) {u : Value} {e' : TypeId} (base : Nat) (v : Value) (xs : List α) (y : α) (n : Nat) (hn : w.heap.size = n)
    (hs : a.eval s = v) (hx : a.eval x = .slice (some ⟨n, 0, none⟩) 1 1) (hown : Bld R e w base (fun _ => True) v xs) (hu : R w (fun k => some k ≠ v.ownBlock) u y)
    (hbytes : (xs.length + 1) * bytes ≤ 140737488355328) (hbase : base ≤ w.heap.size)
    (h : ∀ v' w', Bld R e w' base (fun _ => True) v' (xs ++ [y]) → Below base w w' → wpList P ops Q rest (a.put o.dst v') w') : wpList P ops Q (o :: rest) a (w.alloc (.cells #[u] e')) := by
  subst hn
  refine wpList_append_bld (w.alloc (.cells #[u] e')) hgd s x t ho ok T base (fun _ => True) v _ xs [y] hs hx (hown.alloc ok _) (src_one ok hown trivial (ok.mono hu fun k hk => ⟨hk, trivial⟩) e' rfl) (by simpa using hbytes) (by rw [alloc_size]; omega) ?_
  intro v' w' h1 h2 _ _
  exact h v' w' h1 (((below_alloc w _).mono hbase).trans h2)
/-- .. with the blocks that the elements may lie in. -/
theorem wpList_append_oneG {w : World} {ops : Array Oper} {rest : List Oper} {o : Oper} {a : Act} {Q : Exit → Act → World → Prop} (hgd : o.guard = none) (s x : Operand) (t : TypeId)
    (ho : o.op = .call { callee := .builtin .append, args := #[s, x], argTypes := #[t, t] }) (ok : Ok R) (T : SlTy P t e bytes) {u : Value} {e' : TypeId} (base : Nat) (G : Fp) (v : Value) (xs : List α) (y : α) (n : Nat) (hn : w.heap.size = n)
    (hs : a.eval s = v) (hx : a.eval x = .slice (some ⟨n, 0, none⟩) 1 1) (hown : Bld R e w base G v xs) (hu : R w (fun k => some k ≠ v.ownBlock ∧ G k) u y) (hG : ∀ k, base ≤ k → G k)
    (hbytes : (xs.length + 1) * bytes ≤ 140737488355328) (hbase : base ≤ w.heap.size)
    (h : ∀ v' w', Bld R e w' base G v' (xs ++ [y]) → Below base w w' → wpList P ops Q rest (a.put o.dst v') w') : wpList P ops Q (o :: rest) a (w.alloc (.cells #[u] e')) := by
  subst hn
  refine wpList_append_bld (w.alloc (.cells #[u] e')) hgd s x t ho ok T base G v _ xs [y] hs hx (hown.alloc ok _) (src_one ok hown (hG _ hbase) hu e' rfl) (by simpa using hbytes) (by rw [alloc_size]; omega) ?_
  intro v' w' h1 h2 _ _
  exact h v' w' h1 (((below_alloc w _).mono hbase).trans h2)
/-- .. where the elements lie apart, and x is newer than they. -/
theorem wpList_append_apart {w0 w : World} {ops : Array Oper} {rest : List Oper} {o : Oper} {a : Act} {Q : Exit → Act → World → Prop} (hgd : o.guard = none) (s x : Operand) (t : TypeId)
    (ho : o.op = .call { callee := .builtin .append, args := #[s, x], argTypes := #[t, t] }) (ok : Ok R) (T : SlTy P t e bytes) {u : Value} {e' : TypeId} (base : Nat) (v : Value) (xs : List α) (y : α) (n : Nat) (hn : w.heap.size = n)
    (hs : a.eval s = v) (hx : a.eval x = .slice (some ⟨n, 0, none⟩) 1 1) (hown : OwnL R e w0 (fun k => base ≤ k) v xs) (hg : Below w0.heap.size w0 w) (hu : R w (fun k => w0.heap.size ≤ k) u y)
    (hbytes : (xs.length + 1) * bytes ≤ 140737488355328) (hbase : base ≤ w0.heap.size)
    (h : ∀ v' w', OwnL R e w' (fun k => base ≤ k) v' (xs ++ [y]) → Below base w w' → wpList P ops Q rest (a.put o.dst v') w') : wpList P ops Q (o :: rest) a (w.alloc (.cells #[u] e')) := by
  subst hn
  have hsz := hg.size
  obtain ⟨fs, h1, h2, h3⟩ := (okO ok).lt hown
  have h4 := (okV (okG ok)).grow h3 hg
  have hb : Bld (G1 R) e w base (fun k => base ≤ k) v (xs.zip fs) := (h4.bld fun k hk => hk.1).mono (okG ok) fun k _ hk => hk.1
  have hold := h3.1.blk
  have hsrc := src_one (okG ok) (R' := G1 R) hb (G := fun k => base ≤ k) (by omega) (x := (y, fun k => w0.heap.size ≤ k ∧ k < w.heap.size)) (u := u)
    ⟨ok.lt hu, fun k hk => ⟨⟨fun ek => by have := (hold k ek.symm).2; omega, by omega⟩, hk.2⟩⟩ e' rfl
  have hlz : (xs.zip fs).length = xs.length := by simp [h1]
  refine wpList_append_bld (w.alloc (.cells #[u] e')) hgd s x t ho (okG ok) T base (fun k => base ≤ k) v _ (xs.zip fs) [(y, fun k => w0.heap.size ≤ k ∧ k < w.heap.size)] hs hx (hb.alloc (okG ok) _) hsrc (by rw [hlz]; simpa using hbytes) (by rw [alloc_size]; omega) ?_
  intro v' w' g1 g2 _ _
  refine h v' w' ⟨fs ++ [fun k => w0.heap.size ≤ k ∧ k < w.heap.size], by simp [h1], h2.snoc fun g hgm k hk => ?_, OwnV.of (by rw [List.zip_append h1.symm]; exact g1) (okG ok) (fun k hk => hk) (fun k hk => hk)⟩ (((below_alloc w _).mono (by omega)).trans g2)
  obtain ⟨j, hj, rfl⟩ := List.getElem_of_mem hgm
  obtain ⟨us, r1, r2, r3⟩ := h3.1
  have hju : j < us.length := by simp at r2; omega
  have := (r3 j us[j] (xs[j]'(by omega), fs[j]) (List.getElem?_eq_getElem hju) (by rw [List.getElem?_eq_getElem (by simp; omega)]; simp)).2 k hk
  have hlt := this.1.2.2
  omega
end
end Go.Proofs.Ytlbnkoahkfhimaa.M

/- Words for memory: what a slice reads as, and what a slice that the call builds reads as. No program in sight. -/
import Derived.Below
import Derived.Laws.OwnMore
import Derived.Maps.AppendAt
import Derived.Deep.Draws
import Derived.WalkKit
import Derived.Laws.IdiomStrings
import Derived.Test.YtlbnkoahkfhimaaPure1
namespace Go.Proofs.Ytlbnkoahkfhimaa.M
set_option linter.unusedVariables false
open Go Go.RowKit

abbrev Fp := Nat → Prop
abbrev Rel (α : Type) := World → Fp → Value → α → Prop

/-- What a way of reading must bear: it goes by the blocks of its footprint alone. -/
structure Ok {α : Type} (R : Rel α) : Prop where
  mono : ∀ {w : World} {F F' : Fp} {u : Value} {x : α}, R w F u x → (∀ k, F k → F' k) → R w F' u x
  keep : ∀ {w w' : World} {F : Fp} {u : Value} {x : α}, R w F u x → (∀ k, F k → k < w.heap.size → w'.heap[k]? = w.heap[k]?) → R w' F u x
  lt : ∀ {w : World} {F : Fp} {u : Value} {x : α}, R w F u x → R w (fun k => F k ∧ k < w.heap.size) u x
  one : ∀ {w : World} {F : Fp} {u : Value} {x : α}, R w F u x → u.oneCell' = true

theorem Ok.below {α : Type} {R : Rel α} (o : Ok R) {w w' : World} {F : Fp} {B : Nat} {u : Value} {x : α} (h : R w F u x) (hb : Below B w w') (hF : ∀ k, F k → k < w.heap.size → k < B) : R w' F u x :=
  o.keep h fun k hk hl => hb.block k (hF k hk hl)
/-- The reading of a world, behind whatever has only grown. -/
theorem Ok.grow {α : Type} {R : Rel α} (o : Ok R) {w w' : World} {F : Fp} {u : Value} {x : α} (h : R w F u x) (hb : Below w.heap.size w w') : R w' F u x := o.below h hb fun _ _ h => h

/-- Read in an elder world; G: whatever lets the elder blocks in. -/
theorem Ok.old {α : Type} {R : Rel α} (o : Ok R) {w w' : World} {F G : Fp} {u : Value} {x : α} (h : R w F u x) (hb : Below w.heap.size w w') (hG : ∀ k, F k → k < w.heap.size → G k) : R w' G u x :=
  o.mono (o.grow (o.lt h) hb) fun k hk => hG k hk.1 hk.2
theorem below_alloc (w : World) (ob : Obj) : Below w.heap.size w (w.alloc ob) := (Below.refl _ _).alloc (Nat.le_refl _) _

def B8 (c : UInt8) : Value := .int .u8 (c.toNat : Int)
def R8 : Rel UInt8 := fun _ _ u c => u = B8 c
def RI : Rel Int := fun _ _ u z => u = .int .i64 z
theorem ok8 : Ok R8 := ⟨fun h _ => h, fun h _ => h, fun h => h, fun h => by cases h; rfl⟩
theorem okI : Ok RI := ⟨fun h _ => h, fun h _ => h, fun h => h, fun h => by cases h; rfl⟩

theorem R8_B8 {w : World} {F : Fp} (c : UInt8) : R8 w F (B8 c) c := rfl
theorem R8_of {w : World} {F : Fp} {n : Int} {m : Nat} (h : n = ((m % 256 : Nat) : Int)) : R8 w F (.int .u8 n) (UInt8.ofNat m) := by
  unfold R8 B8
  rw [UInt8.toNat_ofNat', h]
theorem not_own {v : Value} {w : World} (h : ∀ k, v.ownBlock = some k → k < w.heap.size) : some w.heap.size ≠ v.ownBlock := by
  intro e
  exact absurd (h _ e.symm) (by omega)
/-- The cells of a slice. -/
def RdV (w : World) (F : Fp) (v : Value) (us : List Value) : Prop :=
  ∃ A c, v = .slice A us.length c ∧ us.length ≤ c ∧ c ≤ maxLen ∧
    (0 < us.length → ∃ b off, A = some ⟨b, off, none⟩ ∧ F b ∧ ∀ j u, us[j]? = some u → w.cell? ⟨b, off + j, none⟩ = some u)
/-- A slice that reads as a list. -/
def RdL {α : Type} (R : Rel α) : Rel (List α) := fun w F v xs =>
  ∃ us, RdV w F v us ∧ us.length = xs.length ∧ ∀ (j : Nat) (u : Value) (x : α), us[j]? = some u → xs[j]? = some x → R w F u x

theorem RdV.keep {w w' : World} {F : Fp} {v : Value} {us : List Value} (h : RdV w F v us) (hk : ∀ k, F k → k < w.heap.size → w'.heap[k]? = w.heap[k]?) : RdV w' F v us := by
  obtain ⟨A, c, hv, h1, h2, h3⟩ := h
  refine ⟨A, c, hv, h1, h2, fun hn => ?_⟩
  obtain ⟨b, off, hA, hF, hc⟩ := h3 hn
  refine ⟨b, off, hA, hF, fun j u hu => ?_⟩
  have hcj := hc j u hu
  rw [World.cell?_of_block (w := w) (a := ⟨b, off + j, none⟩) (hk b hF (World.block_lt_of_cell? w ⟨b, off + j, none⟩ hcj))]
  exact hcj
theorem RdV.mono {w : World} {F F' : Fp} {v : Value} {us : List Value} (h : RdV w F v us) (hm : ∀ k, F k → F' k) : RdV w F' v us := by
  obtain ⟨A, c, hv, h1, h2, h3⟩ := h
  refine ⟨A, c, hv, h1, h2, fun hn => ?_⟩
  obtain ⟨b, off, hA, hF, hc⟩ := h3 hn
  exact ⟨b, off, hA, hm b hF, hc⟩
theorem RdV.lt {w : World} {F : Fp} {v : Value} {us : List Value} (h : RdV w F v us) : RdV w (fun k => F k ∧ k < w.heap.size) v us := by
  obtain ⟨A, c, hv, h1, h2, h3⟩ := h
  refine ⟨A, c, hv, h1, h2, fun hn => ?_⟩
  obtain ⟨b, off, hA, hF, hc⟩ := h3 hn
  refine ⟨b, off, hA, ⟨hF, ?_⟩, hc⟩
  exact World.block_lt_of_cell? w ⟨b, off + 0, none⟩ (hc 0 us[0] (List.getElem?_eq_getElem hn))
theorem okL {α : Type} {R : Rel α} (o : Ok R) : Ok (RdL R) where
  mono := fun ⟨us, h1, h2, h3⟩ hm => ⟨us, h1.mono hm, h2, fun j u x hu hx => o.mono (h3 j u x hu hx) hm⟩
  keep := fun ⟨us, h1, h2, h3⟩ hk => ⟨us, h1.keep hk, h2, fun j u x hu hx => o.keep (h3 j u x hu hx) hk⟩
  lt := fun ⟨us, h1, h2, h3⟩ => ⟨us, h1.lt, h2, fun j u x hu hx => o.lt (h3 j u x hu hx)⟩
  one := fun ⟨us, ⟨A, c, hv, _⟩, _⟩ => by rw [hv]; rfl

abbrev RdB := RdL R8
abbrev RdBB := RdL RdB
abbrev RdBBB := RdL RdBB
theorem okB : Ok RdB := okL ok8
theorem okBB : Ok RdBB := okL okB
theorem okBBB : Ok RdBBB := okL okBB

section
variable {α : Type} {R : Rel α} {w w' : World} {F : Fp} {v : Value} {xs : List α}
/-- What the walk wants of a slice that came in: its shape. -/
theorem RdL.shape (h : RdL R w F v xs) : ∃ A c, v = .slice A xs.length c ∧ xs.length ≤ c ∧ c ≤ maxLen := by
  obtain ⟨us, ⟨A, c, hv, h1, h2, _⟩, hl, _⟩ := h
  exact ⟨A, c, by rw [← hl]; exact hv, by omega, h2⟩
/-- .. and one of its elements. -/
theorem RdL.at_ {A : Option Addr} {n c : Nat} (h : RdL R w F (.slice A n c) xs) {k : Nat} (hk : k < xs.length) :
    ∃ b off u, A = some ⟨b, off, none⟩ ∧ F b ∧ w.cell? ⟨b, off + k, none⟩ = some u ∧ R w F u xs[k] := by
  obtain ⟨us, ⟨A', c', hv, h1, h2, h3⟩, hl, h4⟩ := h
  injection hv with e1 e2 e3
  obtain ⟨b, off, hA, hF, hc⟩ := h3 (by omega)
  have hk' : k < us.length := by omega
  exact ⟨b, off, us[k], e1.trans hA, hF, hc k _ (List.getElem?_eq_getElem hk'), h4 k _ _ (List.getElem?_eq_getElem hk') (List.getElem?_eq_getElem hk)⟩
theorem RdL.len {A : Option Addr} {n c : Nat} (h : RdL R w F (.slice A n c) xs) : n = xs.length := by
  obtain ⟨us, ⟨A', c', hv, _⟩, hl, _⟩ := h
  injection hv with e1 e2 e3
  omega
theorem RdL.cap {A : Option Addr} {n c : Nat} (h : RdL R w F (.slice A n c) xs) : n ≤ c ∧ c ≤ maxLen := by
  obtain ⟨us, ⟨A', c', hv, h1, h2, _⟩, hl, _⟩ := h
  injection hv with e1 e2 e3
  subst e3
  omega
theorem RdL.nil_ (R : Rel α) (w : World) (F : Fp) (A : Option Addr) (c : Nat) (hc : c ≤ maxLen) : RdL R w F (.slice A 0 c) [] :=
  ⟨[], ⟨A, c, rfl, by simp, hc, fun h => by simp at h⟩, rfl, fun j u x hu => by simp at hu⟩
/-- A part of a slice: 'v[i:j]'. -/
theorem RdL.part {b off n c i j : Nat} (h : RdL R w F (.slice (some ⟨b, off, none⟩) n c) xs) (hij : i ≤ j) (hj : j ≤ n) (c' : Nat) (hc : j - i ≤ c') (hm : c' ≤ maxLen) :
    RdL R w F (.slice (some ⟨b, off + i, none⟩) (j - i) c') ((xs.drop i).take (j - i)) := by
  obtain ⟨us, ⟨A', c0, hv, h1, h2, h3⟩, hl, h4⟩ := h
  injection hv with e1 e2 e3
  refine ⟨(us.drop i).take (j - i), ⟨some ⟨b, off + i, none⟩, c', ?_, ?_, hm, ?_⟩, ?_, ?_⟩
  · congr 1; simp; omega
  · simp; omega
  · intro hn
    have hn' : 0 < j - i ∧ i < us.length := by simp at hn; omega
    obtain ⟨b', off', hA, hF, hc⟩ := h3 (by omega)
    injection e1.trans hA with e4
    injection e4 with e5 e6
    subst e5; subst e6
    refine ⟨b, off + i, rfl, hF, fun k u hu => ?_⟩
    rw [List.getElem?_take] at hu
    split at hu
    · rw [List.getElem?_drop] at hu
      rw [Nat.add_assoc]
      exact hc _ u hu
    · cases hu
  · simp; omega
  · intro k u x hu hx
    rw [List.getElem?_take] at hu hx
    split at hu
    · rename_i hk
      rw [if_pos hk] at hx
      rw [List.getElem?_drop] at hu hx
      exact h4 _ u x hu hx
    · cases hu
/-- A new block: what 'append(v, x)', '[]T{x, y}' lay first. -/
theorem RdL.new_ (o : Ok R) {us : List Value} {xs : List α} {F : Fp} (e : TypeId) (hl : us.length = xs.length) (hm : us.length ≤ maxLen) (hF : F w.heap.size)
    (h : ∀ (j : Nat) (u : Value) (x : α), us[j]? = some u → xs[j]? = some x → R w F u x) : RdL R (w.alloc (.cells us.toArray e)) F (.slice (some ⟨w.heap.size, 0, none⟩) us.length us.length) xs := by
  refine ⟨us, ⟨_, us.length, rfl, Nat.le_refl _, hm, fun _ => ⟨_, 0, rfl, hF, fun j u' hu => ?_⟩⟩, hl, fun j u' x' hu hx => ?_⟩
  · rw [cell_of_row (w.alloc (.cells us.toArray e)) w.heap.size (0 + j) us.toArray e (0, 0) (heap_alloc_new w _)]
    simpa using hu
  · exact o.keep (h j u' x' hu hx) fun k _ hl => Below.heap_alloc _ _ _ hl
theorem RdL.newM_ (o : Ok R) {us : List Value} {xs : List α} {F : Fp} (e : TypeId) (m : Nat × Nat) (hl : us.length = xs.length) (hm : us.length ≤ maxLen) (hF : F w.heap.size)
    (h : ∀ (j : Nat) (u : Value) (x : α), us[j]? = some u → xs[j]? = some x → R w F u x) : RdL R (w.alloc (.cells us.toArray e m)) F (.slice (some ⟨w.heap.size, 0, none⟩) us.length us.length) xs := by
  refine ⟨us, ⟨_, us.length, rfl, Nat.le_refl _, hm, fun _ => ⟨_, 0, rfl, hF, fun j u' hu => ?_⟩⟩, hl, fun j u' x' hu hx => ?_⟩
  · rw [cell_of_row (w.alloc (.cells us.toArray e m)) w.heap.size (0 + j) us.toArray e m (heap_alloc_new w _)]
    simpa using hu
  · exact o.keep (h j u' x' hu hx) fun k _ hl => Below.heap_alloc _ _ _ hl
theorem RdL.one_ (o : Ok R) {u : Value} {x : α} {F : Fp} (h : R w F u x) (e : TypeId) (hF : F w.heap.size) : RdL R (w.alloc (.cells #[u] e)) F (.slice (some ⟨w.heap.size, 0, none⟩) 1 1) [x] :=
  RdL.new_ o (us := [u]) (xs := [x]) e rfl (by simp [maxLen]) hF fun j u' x' hu hx => by
    match j with
    | 0 => simp at hu hx; subst hu; subst hx; exact h
    | j + 1 => simp at hu
theorem RdL.two_ (o : Ok R) {u u2 : Value} {x x2 : α} {F : Fp} (h : R w F u x) (h2 : R w F u2 x2) (e : TypeId) (hF : F w.heap.size) : RdL R (w.alloc (.cells #[u, u2] e)) F (.slice (some ⟨w.heap.size, 0, none⟩) 2 2) [x, x2] :=
  RdL.new_ o (us := [u, u2]) (xs := [x, x2]) e rfl (by simp [maxLen]) hF fun j u' x' hu hx => by
    match j with
    | 0 => simp at hu hx; subst hu; subst hx; exact h
    | 1 => simp at hu hx; subst hu; subst hx; exact h2
    | j + 2 => simp at hu
theorem RdL.three_ (o : Ok R) {u u2 u3 : Value} {x x2 x3 : α} {F : Fp} (h : R w F u x) (h2 : R w F u2 x2) (h3 : R w F u3 x3) (e : TypeId) (hF : F w.heap.size) : RdL R (w.alloc (.cells #[u, u2, u3] e)) F (.slice (some ⟨w.heap.size, 0, none⟩) 3 3) [x, x2, x3] :=
  RdL.new_ o (us := [u, u2, u3]) (xs := [x, x2, x3]) e rfl (by simp [maxLen]) hF fun j u' x' hu hx => by
    match j with
    | 0 => simp at hu hx; subst hu; subst hx; exact h
    | 1 => simp at hu hx; subst hu; subst hx; exact h2
    | 2 => simp at hu hx; subst hu; subst hx; exact h3
    | j + 3 => simp at hu
end

/-! ### a slice that the call itself builds -/
def Bld {α : Type} (R : Rel α) (E : TypeId) (w : World) (base : Nat) (G : Fp) (v : Value) (xs : List α) : Prop :=
  ∃ us, w.ownsRow base E 1 v us.length us ∧ us.length = xs.length ∧ ∀ (j : Nat) (u : Value) (x : α), us[j]? = some u → xs[j]? = some x → R w (fun k => some k ≠ v.ownBlock ∧ G k) u x

section
variable {α : Type} {R : Rel α} {E : TypeId} {w w' : World} {base : Nat} {G : Fp} {v : Value} {xs : List α}
theorem Bld.nil_ (R : Rel α) (E : TypeId) (w : World) (base : Nat) (G : Fp) : Bld R E w base G (.slice none 0 0) [] := ⟨[], World.ownsRow_nil _ _ _ _, rfl, fun j u x hu => by simp at hu⟩
theorem Bld.empty (R : Rel α) (E : TypeId) (w : World) (base : Nat) (G : Fp) (hb : base ≤ w.heap.size) : Bld R E (w.alloc (.cells #[] E)) base G (.slice (some ⟨w.heap.size, 0, none⟩) 0 0) [] :=
  ⟨[], World.ownsRow_made w #[] 0 hb (by simp [maxLen]) rfl, rfl, fun j u x hu => by simp at hu⟩
theorem Bld.lit (o : Ok R) {us : List Value} {w : World} {base : Nat} {G : Fp} {xs : List α} (E : TypeId) (hb : base ≤ w.heap.size) (hl : us.length = xs.length) (hm : us.length ≤ maxLen)
    (h : ∀ (j : Nat) (u : Value) (x : α), us[j]? = some u → xs[j]? = some x → R w G u x) : Bld R E (w.alloc (.cells us.toArray E)) base G (.slice (some ⟨w.heap.size, 0, none⟩) us.length us.length) xs := by
  refine ⟨us, by simpa using World.ownsRow_lit (e := E) (size := 1) w us.toArray us.length hb hm (by simp), hl, fun j u x hu hx => ?_⟩
  refine o.mono (o.keep (o.lt (h j u x hu hx)) fun k _ hl => Below.heap_alloc _ _ _ hl) fun k hk => ⟨?_, hk.1⟩
  simp only [Value.ownBlock, ne_eq, Option.some.injEq]
  have := hk.2
  omega
theorem Bld.one_ (o : Ok R) {u : Value} {w : World} {base : Nat} {G : Fp} {x : α} (h : R w G u x) (E : TypeId) (hb : base ≤ w.heap.size) : Bld R E (w.alloc (.cells #[u] E)) base G (.slice (some ⟨w.heap.size, 0, none⟩) 1 1) [x] :=
  Bld.lit o (us := [u]) (xs := [x]) E hb rfl (by simp [maxLen]) fun j u' x' hu hx => by
    match j with
    | 0 => simp at hu hx; subst hu; subst hx; exact h
    | j + 1 => simp at hu
theorem Bld.blk (h : Bld R E w base G v xs) : ∀ k, v.ownBlock = some k → base ≤ k ∧ k < w.heap.size := by
  obtain ⟨us, h1, _⟩ := h
  exact h1.lt
theorem Bld.lt (o : Ok R) (h : Bld R E w base G v xs) : Bld R E w base (fun k => G k ∧ k < w.heap.size) v xs := by
  obtain ⟨us, h1, h2, h3⟩ := h
  exact ⟨us, h1, h2, fun j u x hu hx => o.mono (o.lt (h3 j u x hu hx)) fun k hk => ⟨hk.1.1, hk.1.2, hk.2⟩⟩
theorem Bld.mono (o : Ok R) {G' : Fp} (h : Bld R E w base G v xs) (hm : ∀ k, some k ≠ v.ownBlock → G k → G' k) : Bld R E w base G' v xs := by
  obtain ⟨us, h1, h2, h3⟩ := h
  exact ⟨us, h1, h2, fun j u x hu hx => o.mono (h3 j u x hu hx) fun k hk => ⟨hk.1, hm k hk.1 hk.2⟩⟩
theorem grown_refl (w : World) (row : Option Nat) : w.grownBy w row := ⟨rfl, rfl, rfl, Nat.le_refl _, fun _ _ _ => rfl⟩
theorem Bld.keep (o : Ok R) {row : Option Nat} (h : Bld R E w base G v xs) (hg : w.grownBy w' row) (hv : v.ownBlock = none ∨ v.ownBlock ≠ row) (hG : ∀ k, some k ≠ v.ownBlock → G k → some k ≠ row) : Bld R E w' base G v xs := by
  obtain ⟨us, h1, h2, h3⟩ := h
  exact ⟨us, h1.kept hg hv, h2, fun j u x hu hx => o.keep (h3 j u x hu hx) fun k hk hl => hg.block k hl (hG k hk.1 hk.2)⟩
theorem grownBy_of_below {a b : World} (h : Below a.heap.size a b) (row : Option Nat) : a.grownBy b row := ⟨h.os, h.tape, h.output, h.size, fun i hi _ => h.block i hi⟩
theorem Bld.grow (o : Ok R) (h : Bld R E w base G v xs) (hb : Below w.heap.size w w') : Bld R E w' base G v xs := by
  refine h.keep o (row := none) (grownBy_of_below hb none) ?_ (fun _ _ _ => by simp)
  cases v.ownBlock <;> simp
theorem Bld.alloc (o : Ok R) (h : Bld R E w base G v xs) (ob : Obj) : Bld R E (w.alloc ob) base G v xs := h.grow o ((Below.refl _ _).alloc (Nat.le_refl _) _)
theorem Bld.base_ {b : Nat} (h : Bld R E w base G v xs) (hb : b ≤ base) : Bld R E w b G v xs := by
  obtain ⟨us, h1, h2, h3⟩ := h
  exact ⟨us, ⟨h1.1, h1.2.elim .inl fun ⟨g, cap, cur, hv, hg, r⟩ => .inr ⟨g, cap, cur, hv, Nat.le_trans hb hg, r⟩⟩, h2, h3⟩
theorem Bld.toRd (o : Ok R) (h : Bld R E w base G v xs) {F : Fp} (hF : ∀ k, base ≤ k → F k) (hG : ∀ k, G k → F k) : RdL R w F v xs := by
  obtain ⟨us, h1, h2, h3⟩ := h
  refine ⟨us, ?_, h2, fun j u x hu hx => o.mono (h3 j u x hu hx) fun k hk => hG k hk.2⟩
  have hc : ∀ g, v.ownBlock = some g → ∀ j u, us[j]? = some u → w.cell? ((⟨g, 0, none⟩ : Addr).add j) = some u := fun g hg => h1.cells hg
  rcases h1.2 with ⟨rfl, h0⟩ | ⟨g, cap, cur, rfl, hb, _, hn, hm, _, _⟩
  · exact ⟨none, 0, by rw [h0], by omega, by simp [maxLen], fun hp => by omega⟩
  · refine ⟨_, cap, rfl, hn, hm, fun _ => ⟨g, 0, rfl, hF g hb, fun j u hu => ?_⟩⟩
    have := hc g rfl j u hu
    have hadd : (⟨g, 0, none⟩ : Addr).add j = ⟨g, 0 + j, none⟩ := by unfold Addr.add; split <;> simp_all
    rwa [hadd] at this
theorem Bld.toRd_ (o : Ok R) (h : Bld R E w base G v xs) : RdL R w (fun k => k < w.heap.size) v xs :=
  (okL o).mono ((okL o).lt (h.toRd o (F := fun _ => True) (fun _ _ => trivial) (fun _ _ => trivial))) fun _ hk => hk.2
/-- Its shape, where it is not empty. -/
theorem Bld.form (h : Bld R E w base G v xs) (hn : 0 < xs.length) : ∃ g c, v = .slice (some ⟨g, 0, none⟩) xs.length c ∧ base ≤ g ∧ g < w.heap.size ∧ xs.length ≤ c ∧ c ≤ maxLen := by
  obtain ⟨us, h1, h2, _⟩ := h
  have hlt := h1.lt
  rcases h1.2 with ⟨rfl, h0⟩ | ⟨g, cap, cur, rfl, hb, _, hc, hm, _, _⟩
  · omega
  · exact ⟨g, cap, by rw [h2], hb, (hlt g rfl).2, by omega, hm⟩
theorem Bld.at_ {g n c : Nat} (h : Bld R E w base G (.slice (some ⟨g, 0, none⟩) n c) xs) {k : Nat} (hk : k < xs.length) :
    ∃ u, w.cell? ⟨g, k, none⟩ = some u ∧ w.frozen? ⟨g, k, none⟩ = false ∧ R w (fun k => k ≠ g ∧ G k) u xs[k] := by
  obtain ⟨us, h1, h2, h3⟩ := h
  have hn : n = us.length := by
    rcases h1.2 with ⟨hv, _⟩ | ⟨g', cap, cur, hv, _⟩
    · cases hv
    · injection hv
  subst hn
  have hk' : k < us.length := by omega
  refine ⟨us[k], ?_, h1.frozenAt k, ?_⟩
  · rw [h1.cellAt k (by omega)]; exact List.getElem?_eq_getElem hk'
  · have := h3 k _ _ (List.getElem?_eq_getElem hk') (List.getElem?_eq_getElem hk)
    simpa [Value.ownBlock] using this
/-- A store into it. -/
theorem Bld.set_ (o : Ok R) {g n c : Nat} (h : Bld R E w base G (.slice (some ⟨g, 0, none⟩) n c) xs) {k : Nat} (hk : k < xs.length) {u : Value} {x : α} (hu : R w (fun k => k ≠ g ∧ G k) u x) :
    Bld R E (w.setCell ⟨g, k, none⟩ u) base G (.slice (some ⟨g, 0, none⟩) n c) (xs.set k x) := by
  obtain ⟨us, h1, h2, h3⟩ := h
  have hn : n = us.length := by
    rcases h1.2 with ⟨hv, _⟩ | ⟨g', cap, cur, hv, _⟩
    · cases hv
    · injection hv
  subst hn
  have hk' : k < us.length := by omega
  have hother : ∀ i, i ≠ g → (w.setCell ⟨g, k, none⟩ u).heap[i]? = w.heap[i]? := fun i hi => Below.heap_setCell w ⟨g, k, none⟩ u i hi
  refine ⟨us.set k u, ?_, by simpa using h2, fun j u' x' hu' hx' => ?_⟩
  · have := (h1.stored k u).1
    simpa using this
  · by_cases hj : j = k
    · subst hj
      have e1 : u' = u := by
        rw [List.getElem?_set_self hk'] at hu'; exact (Option.some.inj hu').symm
      have e2 : x' = x := by
        rw [List.getElem?_set_self hk] at hx'; exact (Option.some.inj hx').symm
      subst e1; subst e2
      refine o.keep (F := fun k => some k ≠ Value.ownBlock (.slice (some ⟨g, 0, none⟩) us.length c) ∧ G k) (by simpa [Value.ownBlock] using hu) fun i hi _ => hother i ?_
      simpa [Value.ownBlock] using hi.1
    · rw [List.getElem?_set_ne (by omega)] at hu' hx'
      refine o.keep (h3 j u' x' hu' hx') fun i hi _ => hother i ?_
      simpa [Value.ownBlock] using hi.1
end

theorem Bld.bytes {E : TypeId} {w : World} {base : Nat} {G G' : Fp} {v : Value} {xs : Bs} (h : Bld R8 E w base G v xs) : Bld R8 E w base G' v xs := h

/-! ### append, onto what the call builds -/
section
variable {P : Program} (w : World)
theorem run_append_nilsrc (base : Nat) (t ty e : TypeId) (i : TypeInfo) (size : Nat) (ht : P.underlying t = some (.slice e)) (hi : P.info? e = some i)
    (v : Value) (n : Nat) (xs : List Value) (hown : w.ownsRow base e size v n xs) (c : Nat) : (Builtin.append_ #[t, t] ty #[v, .slice none 0 c]).run P w = .ok v w := by
  rcases hown.2 with ⟨rfl, rfl⟩ | ⟨g, cap, cur, rfl, _, _, hnc, _⟩
  · simp [Builtin.append_, run_underlying ht, sizeOf, typeInfo, hi, Builtin.lenOf, Builtin.firstCells]
  · simp [Builtin.append_, run_underlying ht, sizeOf, typeInfo, hi, Builtin.lenOf, Builtin.firstCells, hnc, storeCells]

theorem run_append_bld {α : Type} {R : Rel α} (ok : Ok R) (base : Nat) (t ty e : TypeId) (i : TypeInfo) (z : Value) (bytes : Nat) (ht : P.underlying t = some (.slice e)) (hi : P.info? e = some i) (hz : i.zero = some z)
    (hsize : i.size = 1) (hby : i.bytes = bytes) (hzs : z.cells.size = 1)
    (G : Fp) (v x : Value) (xs ys : List α) (hown : Bld R e w base G v xs) (hsrc : RdL R w (fun k => some k ≠ v.ownBlock ∧ G k) x ys)
    (h63 : xs.length + ys.length ≤ maxLen) (hbytes : (xs.length + ys.length) * bytes ≤ 140737488355328) (hbase : base ≤ w.heap.size) :
    ∃ v' w', (Builtin.append_ #[t, t] ty #[v, x]).run P w = .ok v' w' ∧ Bld R e w' base G v' (xs ++ ys) ∧ w.grownBy w' v.ownBlock ∧ (v'.ownBlock = v.ownBlock ∨ v'.ownBlock = some w.heap.size) := by
  obtain ⟨us, h1, h2, h3⟩ := hown
  obtain ⟨ns, ⟨A, c, hx, hc1, hc2, hc3⟩, hl, h4⟩ := hsrc
  subst hx
  have fin : ∀ v' w', w'.ownsRow base e 1 v' (us.length + ns.length) (us ++ ns) → w.grownBy w' v.ownBlock → (v'.ownBlock = v.ownBlock ∨ v'.ownBlock = some w.heap.size) → Bld R e w' base G v' (xs ++ ys) := by
    intro v' w' ho hg hat
    refine ⟨us ++ ns, by simpa using ho, by simp [h2, hl], fun j u y hu hy => ?_⟩
    have key : R w (fun k => some k ≠ v.ownBlock ∧ G k) u y := by
      by_cases hj : j < us.length
      · rw [List.getElem?_append_left hj] at hu
        rw [List.getElem?_append_left (by omega)] at hy
        exact h3 j u y hu hy
      · rw [List.getElem?_append_right (by omega)] at hu
        rw [List.getElem?_append_right (by omega)] at hy
        rw [h2] at hu
        exact h4 _ u y hu hy
    have key2 := ok.keep (ok.lt key) (w' := w') fun k hk hlt => hg.block k hlt hk.1.1
    refine ok.mono key2 fun k hk => ⟨?_, hk.1.2⟩
    rcases hat with e | e
    · rw [e]; exact hk.1.1
    · rw [e]; intro e2; injection e2 with e2; omega
  rcases A with _ | ad
  · have hm : ns = [] := by
      apply List.eq_nil_of_length_eq_zero
      rcases Nat.eq_zero_or_pos ns.length with h0 | h0
      · exact h0
      · obtain ⟨b, off, hA, _⟩ := hc3 h0; cases hA
    subst hm
    refine ⟨v, w, run_append_nilsrc w base t ty e i 1 ht hi v _ us h1 c, fin v w (by simpa using h1) ((grown_refl w _)) (.inl rfl), (grown_refl w _), .inl rfl⟩
  · have hcells : ∀ j u, ns[j]? = some u → w.cell? (ad.add j) = some u := by
      intro j u hu
      have h0 : 0 < ns.length := by
        rcases Nat.eq_zero_or_pos ns.length with h0 | h0
        · rw [List.eq_nil_of_length_eq_zero h0] at hu; simp at hu
        · exact h0
      obtain ⟨b, off, hA, _, hc⟩ := hc3 h0
      injection hA with hA
      subst hA
      have := hc j u hu
      have hadd : (⟨b, off, none⟩ : Addr).add j = ⟨b, off + j, none⟩ := by unfold Addr.add; split <;> simp_all
      rwa [hadd]
    obtain ⟨v', w', hrun, g1, g2, _, g4⟩ := run_append_own_at (P := P) w base t ty e i z 1 bytes ht hi hz hsize hby hzs (by omega) v us.length us h1 ad ns.length c ns (by simp) hcells
      (fun u hu => by
        obtain ⟨j, hj, hju⟩ := List.getElem_of_mem hu
        exact ok.one (h4 j u (ys[j]'(by omega)) (by rw [← hju]; exact List.getElem?_eq_getElem hj) (List.getElem?_eq_getElem _)))
      (by omega) (by rw [h2, hl]; exact hbytes) hbase
    exact ⟨v', w', hrun, fin v' w' g1 g2 g4, g2, g4⟩

/-- What is asked of a slice's type, and its elements'. -/
def SlTy (P : Program) (t e : TypeId) (bytes : Nat) : Prop :=
  ∃ i z, P.underlying t = some (.slice e) ∧ P.info? e = some i ∧ i.zero = some z ∧ i.size = 1 ∧ i.bytes = bytes ∧ z.cells.size = 1 ∧ 0 < bytes

/-- AT THE OPERATION 'append(v, ..)', v the call's own. -/
theorem wpList_append_bld {ops : Array Oper} {rest : List Oper} {o : Oper} {a : Act} {Q : Exit → Act → World → Prop} (hgd : o.guard = none) (s x : Operand) (t : TypeId)
    (ho : o.op = .call { callee := .builtin .append, args := #[s, x], argTypes := #[t, t] })
    {α : Type} {R : Rel α} (ok : Ok R) {e : TypeId} {bytes : Nat} (T : SlTy P t e bytes) (base : Nat) (G : Fp) (v xv : Value) (xs ys : List α) (hs : a.eval s = v) (hx : a.eval x = xv)
    (hown : Bld R e w base G v xs) (hsrc : RdL R w (fun k => some k ≠ v.ownBlock ∧ G k) xv ys)
    (hbytes : (xs.length + ys.length) * bytes ≤ 140737488355328) (hbase : base ≤ w.heap.size)
    (h : ∀ v' w', Bld R e w' base G v' (xs ++ ys) → Below base w w' → w.grownBy w' v.ownBlock → (v'.ownBlock = v.ownBlock ∨ v'.ownBlock = some w.heap.size) → wpList P ops Q rest (a.put o.dst v') w') : wpList P ops Q (o :: rest) a w := by
  refine wpList_plain hgd fun K hK => ?_
  obtain ⟨i, z, ht, hi, hz, hsize, hby, hzs, hpos⟩ := T
  have h63 : xs.length + ys.length ≤ maxLen := by
    have : (xs.length + ys.length) * 1 ≤ (xs.length + ys.length) * bytes := Nat.mul_le_mul_left _ hpos
    unfold maxLen
    omega
  obtain ⟨v', w', hr, h2, h3, h4⟩ := run_append_bld (P := P) w ok base t o.type e i z bytes ht hi hz hsize hby hzs G v xv xs ys hown hsrc h63 hbytes hbase
  unfold Oper.wp execOp
  simp only [ho, resolve, invoke, builtin, Sem.run_bind, Sem.run_pure, Result.andThen_ok, List.map_toArray, List.map_cons, List.map_nil, hs, hx, hr]
  exact hK _ _ (h v' w' h2 ((Below.refl base w).grown h3 hbase fun k hk => (hown.blk k hk).1) h3 h4)
end

/-- []byte(constant). -/
theorem rd_const (w : World) (b : Bs) (e : TypeId) (m : Nat × Nat) (hm : b.length ≤ maxLen) : RdB (w.alloc (.cells (b.map B8).toArray e m)) (fun _ => True) (.slice (some ⟨w.heap.size, 0, none⟩) b.length b.length) b := by
  have h := RdL.newM_ (w := w) ok8 (us := b.map B8) (xs := b) (F := fun _ => True) e m (by simp) (by simpa using hm) trivial fun j u x hu hx => by
    simp at hu
    obtain ⟨c, hc, rfl⟩ := hu
    rw [hc] at hx
    injection hx with hx
    subst hx
    rfl
  simpa using h
/-! ### string(b) -/
def strB (b : Bs) : ByteArray := ⟨b.toArray⟩
theorem strB_inj {a b : Bs} (h : strB a = strB b) : a = b := by
  have := congrArg (fun s : ByteArray => s.data.toList) h
  simpa [strB] using this
theorem strB_toList (b : Bs) : (strB b).toList = b := Go.ByteArray.toList_mk b
theorem run_conv {P : Program} {w : World} {F : Fp} {v : Value} {b : Bs} (h : RdB w F v b) {src e dst : TypeId} (hs : P.underlying src = some (.slice e)) (he : P.underlying e = some (.int .u8)) (hd : P.underlying dst = some .string) :
    (convert src dst v).run P w = .ok (.string (strB b)) w := by
  obtain ⟨A, c, rfl, _, _⟩ := h.shape
  by_cases h0 : b.length = 0
  · obtain rfl : b = [] := List.eq_nil_of_length_eq_zero h0
    rw [run_convert_bytes_string w src dst e _ _ c hs he hd]
    cases A with
    | none => simp [Conv.bytesToString]; rfl
    | some a =>
      show (Conv.bytesToString (Value.slice (some a) 0 c)).run P w = _
      rw [run_bytesToString w a 0 c [] (by simp [loadCells, loadCellsFrom])]
      rfl
  · obtain ⟨bb, off, u, rfl, _, _, _⟩ := h.at_ (k := 0) (by omega)
    rw [run_convert_bytes_arg w src e hs he bb off b.length c (b.map fun x => (x.toNat : Int)) (by simp) (fun i hi => ?_) dst hd]
    · congr 2
      unfold strOfNums strB
      rw [List.map_map]
      congr 1
      congr 1
      have : ((fun n : Int => UInt8.ofNat n.toNat) ∘ fun x : UInt8 => (x.toNat : Int)) = id := by funext x; simp
      rw [this, List.map_id]
    · obtain ⟨b', o', u, hA, _, hc, hR⟩ := h.at_ hi
      injection hA with hA
      injection hA with e1 e2
      subst e1; subst e2
      rw [hc, hR]
      simp [B8, hi]

theorem strB_add (a b : Bs) : strB a ++ strB b = strB (a ++ b) := by
  apply ByteArray.ext
  simp [strB]
theorem strB_size (a : Bs) : (strB a).size = a.length := by simp [strB, ByteArray.size]
/-- []byte(s): in a new block. -/
theorem run_bytes {P : Program} (w : World) (b : Bs) {src dst e : TypeId} (hs : P.underlying src = some .string) (hd : P.underlying dst = some (.slice e)) (he : P.underlying e = some (.int .u8)) (hm : b.length ≤ maxLen) :
    ∃ c w', (convert src dst (.string (strB b))).run P w = .ok (.slice (some ⟨w.heap.size, 0, none⟩) b.length c) w' ∧ RdB w' (fun _ => True) (.slice (some ⟨w.heap.size, 0, none⟩) b.length c) b ∧ Below w.heap.size w w' := by
  have h := run_bytes_of_string (P := P) w src dst e (strB b) hs hd he
  rw [strB_size] at h
  refine ⟨grownCap w b.length 0 e, _, h, ?_, ?_⟩
  · refine ⟨b.map B8, ⟨some ⟨w.heap.size, 0, none⟩, grownCap w b.length 0 e, by rw [List.length_map], by rw [List.length_map]; exact grownCap_ge w b.length 0 e, grownCap_le_maxLen w b.length 0 e hm, fun hn => ⟨_, 0, rfl, trivial, fun j u hu => ?_⟩⟩, by rw [List.length_map], fun j u x hu hx => ?_⟩
    · rw [List.getElem?_map] at hu
      obtain ⟨c, hc, rfl⟩ := Option.map_eq_some_iff.1 hu
      obtain ⟨hj, hjc⟩ := List.getElem?_eq_some_iff.1 hc
      rw [cell_of_row (w.drew.alloc _) w.heap.size (0 + j) _ e _ (heap_alloc_new w.drew _), Nat.zero_add, bytesRow_at (strB b) _ j (by simpa [strB] using hj)]
      simp [strB, B8, hjc]
    · rw [List.getElem?_map] at hu
      obtain ⟨c, hc, rfl⟩ := Option.map_eq_some_iff.1 hu
      rw [hc] at hx
      injection hx with hx
      subst hx
      rfl
  · exact ((Below.refl _ _).drew).alloc (Nat.le_refl _) _
end Go.Proofs.Ytlbnkoahkfhimaa.M

/- Merged: Mem Mem2 Mem3 Mem4 Region Region2 Mem5. -/
import Derived.Below
import Derived.Laws.OwnMore
import Derived.Maps.AppendAt
import Derived.Deep.Draws
import Derived.WalkKit
import Derived.Laws.IdiomStrings
import Derived.Test.YtdcmbdghnkgghaaDoorZa
import Derived.Orders
namespace Go.Proofs.YtdcmbdghnkgghaaDoor.M
set_option linter.unusedVariables false
open Go Go.RowKit

abbrev Fp := Nat → Prop
abbrev Rel (α : Type) := World → Fp → Value → α → Prop

/-- What a way of reading must bear: it goes by the blocks of its footprint alone. -/
structure Ok {α : Type} (R : Rel α) : Prop where
  mono : ∀ {w : World} {F F' : Fp} {u : Value} {x : α}, R w F u x → (∀ k, F k → F' k) → R w F' u x
  keep : ∀ {w w' : World} {F : Fp} {u : Value} {x : α}, R w F u x → (∀ k, F k → k < w.heap.size → w'.heap[k]? = w.heap[k]?) → R w' F u x
  lt : ∀ {w : World} {F : Fp} {u : Value} {x : α}, R w F u x → R w (fun k => F k ∧ k < w.heap.size) u x
  one : ∀ {w : World} {F : Fp} {u : Value} {x : α}, R w F u x → u.oneCell' = true

theorem Ok.below {α : Type} {R : Rel α} (o : Ok R) {w w' : World} {F : Fp} {B : Nat} {u : Value} {x : α} (h : R w F u x) (hb : Below B w w') (hF : ∀ k, F k → k < w.heap.size → k < B) : R w' F u x :=
  o.keep h fun k hk hl => hb.block k (hF k hk hl)
/-- The reading of a world, behind whatever has only grown. -/
theorem Ok.grow {α : Type} {R : Rel α} (o : Ok R) {w w' : World} {F : Fp} {u : Value} {x : α} (h : R w F u x) (hb : Below w.heap.size w w') : R w' F u x := o.below h hb fun _ _ h => h

/-- Read in an elder world; G: whatever lets the elder blocks in. -/
theorem Ok.old {α : Type} {R : Rel α} (o : Ok R) {w w' : World} {F G : Fp} {u : Value} {x : α} (h : R w F u x) (hb : Below w.heap.size w w') (hG : ∀ k, F k → k < w.heap.size → G k) : R w' G u x :=
  o.mono (o.grow (o.lt h) hb) fun k hk => hG k hk.1 hk.2
theorem below_alloc (w : World) (ob : Obj) : Below w.heap.size w (w.alloc ob) := (Below.refl _ _).alloc (Nat.le_refl _) _

def B8 (c : UInt8) : Value := .int .u8 (c.toNat : Int)
def R8 : Rel UInt8 := fun _ _ u c => u = B8 c
def RI : Rel Int := fun _ _ u z => u = .int .i64 z
theorem ok8 : Ok R8 := ⟨fun h _ => h, fun h _ => h, fun h => h, fun h => by cases h; rfl⟩
theorem okI : Ok RI := ⟨fun h _ => h, fun h _ => h, fun h => h, fun h => by cases h; rfl⟩

theorem R8_B8 {w : World} {F : Fp} (c : UInt8) : R8 w F (B8 c) c := rfl
theorem R8_of {w : World} {F : Fp} {n : Int} {m : Nat} (h : n = ((m % 256 : Nat) : Int)) : R8 w F (.int .u8 n) (UInt8.ofNat m) := by
  unfold R8 B8
  rw [UInt8.toNat_ofNat', h]
theorem not_own {v : Value} {w : World} (h : ∀ k, v.ownBlock = some k → k < w.heap.size) : some w.heap.size ≠ v.ownBlock := by
  intro e
  exact absurd (h _ e.symm) (by omega)
/-- The cells of a slice. -/
def RdV (w : World) (F : Fp) (v : Value) (us : List Value) : Prop :=
  ∃ A c, v = .slice A us.length c ∧ us.length ≤ c ∧ c ≤ maxLen ∧
    (0 < us.length → ∃ b off, A = some ⟨b, off, none⟩ ∧ F b ∧ ∀ j u, us[j]? = some u → w.cell? ⟨b, off + j, none⟩ = some u)
/-- A slice that reads as a list. -/
def RdL {α : Type} (R : Rel α) : Rel (List α) := fun w F v xs =>
  ∃ us, RdV w F v us ∧ us.length = xs.length ∧ ∀ (j : Nat) (u : Value) (x : α), us[j]? = some u → xs[j]? = some x → R w F u x

theorem RdV.keep {w w' : World} {F : Fp} {v : Value} {us : List Value} (h : RdV w F v us) (hk : ∀ k, F k → k < w.heap.size → w'.heap[k]? = w.heap[k]?) : RdV w' F v us := by
  obtain ⟨A, c, hv, h1, h2, h3⟩ := h
  refine ⟨A, c, hv, h1, h2, fun hn => ?_⟩
  obtain ⟨b, off, hA, hF, hc⟩ := h3 hn
  refine ⟨b, off, hA, hF, fun j u hu => ?_⟩
  have hcj := hc j u hu
  rw [World.cell?_of_block (w := w) (a := ⟨b, off + j, none⟩) (hk b hF (World.block_lt_of_cell? w ⟨b, off + j, none⟩ hcj))]
  exact hcj
theorem RdV.mono {w : World} {F F' : Fp} {v : Value} {us : List Value} (h : RdV w F v us) (hm : ∀ k, F k → F' k) : RdV w F' v us := by
  obtain ⟨A, c, hv, h1, h2, h3⟩ := h
  refine ⟨A, c, hv, h1, h2, fun hn => ?_⟩
  obtain ⟨b, off, hA, hF, hc⟩ := h3 hn
  exact ⟨b, off, hA, hm b hF, hc⟩
theorem RdV.lt {w : World} {F : Fp} {v : Value} {us : List Value} (h : RdV w F v us) : RdV w (fun k => F k ∧ k < w.heap.size) v us := by
  obtain ⟨A, c, hv, h1, h2, h3⟩ := h
  refine ⟨A, c, hv, h1, h2, fun hn => ?_⟩
  obtain ⟨b, off, hA, hF, hc⟩ := h3 hn
  refine ⟨b, off, hA, ⟨hF, ?_⟩, hc⟩
  exact World.block_lt_of_cell? w ⟨b, off + 0, none⟩ (hc 0 us[0] (List.getElem?_eq_getElem hn))
theorem okL {α : Type} {R : Rel α} (o : Ok R) : Ok (RdL R) where
  mono := fun ⟨us, h1, h2, h3⟩ hm => ⟨us, h1.mono hm, h2, fun j u x hu hx => o.mono (h3 j u x hu hx) hm⟩
  keep := fun ⟨us, h1, h2, h3⟩ hk => ⟨us, h1.keep hk, h2, fun j u x hu hx => o.keep (h3 j u x hu hx) hk⟩
  lt := fun ⟨us, h1, h2, h3⟩ => ⟨us, h1.lt, h2, fun j u x hu hx => o.lt (h3 j u x hu hx)⟩
  one := fun ⟨us, ⟨A, c, hv, _⟩, _⟩ => by rw [hv]; rfl

abbrev RdB := RdL R8
abbrev RdBB := RdL RdB
abbrev RdBBB := RdL RdBB
theorem okB : Ok RdB := okL ok8
theorem okBB : Ok RdBB := okL okB
theorem okBBB : Ok RdBBB := okL okBB

section
variable {α : Type} {R : Rel α} {w w' : World} {F : Fp} {v : Value} {xs : List α}
/-- What the walk wants of a slice that came in: its shape. -/
theorem RdL.shape (h : RdL R w F v xs) : ∃ A c, v = .slice A xs.length c ∧ xs.length ≤ c ∧ c ≤ maxLen := by
  obtain ⟨us, ⟨A, c, hv, h1, h2, _⟩, hl, _⟩ := h
  exact ⟨A, c, by rw [← hl]; exact hv, by omega, h2⟩
/-- .. and one of its elements. -/
theorem RdL.at_ {A : Option Addr} {n c : Nat} (h : RdL R w F (.slice A n c) xs) {k : Nat} (hk : k < xs.length) :
    ∃ b off u, A = some ⟨b, off, none⟩ ∧ F b ∧ w.cell? ⟨b, off + k, none⟩ = some u ∧ R w F u xs[k] := by
  obtain ⟨us, ⟨A', c', hv, h1, h2, h3⟩, hl, h4⟩ := h
  injection hv with e1 e2 e3
  obtain ⟨b, off, hA, hF, hc⟩ := h3 (by omega)
  have hk' : k < us.length := by omega
  exact ⟨b, off, us[k], e1.trans hA, hF, hc k _ (List.getElem?_eq_getElem hk'), h4 k _ _ (List.getElem?_eq_getElem hk') (List.getElem?_eq_getElem hk)⟩
theorem RdL.len {A : Option Addr} {n c : Nat} (h : RdL R w F (.slice A n c) xs) : n = xs.length := by
  obtain ⟨us, ⟨A', c', hv, _⟩, hl, _⟩ := h
  injection hv with e1 e2 e3
  omega
theorem RdL.cap {A : Option Addr} {n c : Nat} (h : RdL R w F (.slice A n c) xs) : n ≤ c ∧ c ≤ maxLen := by
  obtain ⟨us, ⟨A', c', hv, h1, h2, _⟩, hl, _⟩ := h
  injection hv with e1 e2 e3
  subst e3
  omega
theorem RdL.nil_ (R : Rel α) (w : World) (F : Fp) (A : Option Addr) (c : Nat) (hc : c ≤ maxLen) : RdL R w F (.slice A 0 c) [] :=
  ⟨[], ⟨A, c, rfl, by simp, hc, fun h => by simp at h⟩, rfl, fun j u x hu => by simp at hu⟩
/-- A part of a slice: 'v[i:j]'. -/
theorem RdL.part {b off n c i j : Nat} (h : RdL R w F (.slice (some ⟨b, off, none⟩) n c) xs) (hij : i ≤ j) (hj : j ≤ n) (c' : Nat) (hc : j - i ≤ c') (hm : c' ≤ maxLen) :
    RdL R w F (.slice (some ⟨b, off + i, none⟩) (j - i) c') ((xs.drop i).take (j - i)) := by
  obtain ⟨us, ⟨A', c0, hv, h1, h2, h3⟩, hl, h4⟩ := h
  injection hv with e1 e2 e3
  refine ⟨(us.drop i).take (j - i), ⟨some ⟨b, off + i, none⟩, c', ?_, ?_, hm, ?_⟩, ?_, ?_⟩
  · congr 1; simp; omega
  · simp; omega
  · intro hn
    have hn' : 0 < j - i ∧ i < us.length := by simp at hn; omega
    obtain ⟨b', off', hA, hF, hc⟩ := h3 (by omega)
    injection e1.trans hA with e4
    injection e4 with e5 e6
    subst e5; subst e6
    refine ⟨b, off + i, rfl, hF, fun k u hu => ?_⟩
    rw [List.getElem?_take] at hu
    split at hu
    · rw [List.getElem?_drop] at hu
      rw [Nat.add_assoc]
      exact hc _ u hu
    · cases hu
  · simp; omega
  · intro k u x hu hx
    rw [List.getElem?_take] at hu hx
    split at hu
    · rename_i hk
      rw [if_pos hk] at hx
      rw [List.getElem?_drop] at hu hx
      exact h4 _ u x hu hx
    · cases hu
/-- A new block: what 'append(v, x)', '[]T{x, y}' lay first. -/
theorem RdL.new_ (o : Ok R) {us : List Value} {xs : List α} {F : Fp} (e : TypeId) (hl : us.length = xs.length) (hm : us.length ≤ maxLen) (hF : F w.heap.size)
    (h : ∀ (j : Nat) (u : Value) (x : α), us[j]? = some u → xs[j]? = some x → R w F u x) : RdL R (w.alloc (.cells us.toArray e)) F (.slice (some ⟨w.heap.size, 0, none⟩) us.length us.length) xs := by
  refine ⟨us, ⟨_, us.length, rfl, Nat.le_refl _, hm, fun _ => ⟨_, 0, rfl, hF, fun j u' hu => ?_⟩⟩, hl, fun j u' x' hu hx => ?_⟩
  · rw [cell_of_row (w.alloc (.cells us.toArray e)) w.heap.size (0 + j) us.toArray e (0, 0) (heap_alloc_new w _)]
    simpa using hu
  · exact o.keep (h j u' x' hu hx) fun k _ hl => Below.heap_alloc _ _ _ hl
theorem RdL.newM_ (o : Ok R) {us : List Value} {xs : List α} {F : Fp} (e : TypeId) (m : Nat × Nat) (hl : us.length = xs.length) (hm : us.length ≤ maxLen) (hF : F w.heap.size)
    (h : ∀ (j : Nat) (u : Value) (x : α), us[j]? = some u → xs[j]? = some x → R w F u x) : RdL R (w.alloc (.cells us.toArray e m)) F (.slice (some ⟨w.heap.size, 0, none⟩) us.length us.length) xs := by
  refine ⟨us, ⟨_, us.length, rfl, Nat.le_refl _, hm, fun _ => ⟨_, 0, rfl, hF, fun j u' hu => ?_⟩⟩, hl, fun j u' x' hu hx => ?_⟩
  · rw [cell_of_row (w.alloc (.cells us.toArray e m)) w.heap.size (0 + j) us.toArray e m (heap_alloc_new w _)]
    simpa using hu
  · exact o.keep (h j u' x' hu hx) fun k _ hl => Below.heap_alloc _ _ _ hl
theorem RdL.one_ (o : Ok R) {u : Value} {x : α} {F : Fp} (h : R w F u x) (e : TypeId) (hF : F w.heap.size) : RdL R (w.alloc (.cells #[u] e)) F (.slice (some ⟨w.heap.size, 0, none⟩) 1 1) [x] :=
  RdL.new_ o (us := [u]) (xs := [x]) e rfl (by simp [maxLen]) hF fun j u' x' hu hx => by
    match j with
    | 0 => simp at hu hx; subst hu; subst hx; exact h
    | j + 1 => simp at hu
theorem RdL.two_ (o : Ok R) {u u2 : Value} {x x2 : α} {F : Fp} (h : R w F u x) (h2 : R w F u2 x2) (e : TypeId) (hF : F w.heap.size) : RdL R (w.alloc (.cells #[u, u2] e)) F (.slice (some ⟨w.heap.size, 0, none⟩) 2 2) [x, x2] :=
  RdL.new_ o (us := [u, u2]) (xs := [x, x2]) e rfl (by simp [maxLen]) hF fun j u' x' hu hx => by
    match j with
    | 0 => simp at hu hx; subst hu; subst hx; exact h
    | 1 => simp at hu hx; subst hu; subst hx; exact h2
    | j + 2 => simp at hu
theorem RdL.three_ (o : Ok R) {u u2 u3 : Value} {x x2 x3 : α} {F : Fp} (h : R w F u x) (h2 : R w F u2 x2) (h3 : R w F u3 x3) (e : TypeId) (hF : F w.heap.size) : RdL R (w.alloc (.cells #[u, u2, u3] e)) F (.slice (some ⟨w.heap.size, 0, none⟩) 3 3) [x, x2, x3] :=
  RdL.new_ o (us := [u, u2, u3]) (xs := [x, x2, x3]) e rfl (by simp [maxLen]) hF fun j u' x' hu hx => by
    match j with
    | 0 => simp at hu hx; subst hu; subst hx; exact h
    | 1 => simp at hu hx; subst hu; subst hx; exact h2
    | 2 => simp at hu hx; subst hu; subst hx; exact h3
    | j + 3 => simp at hu
end

/-! ### a slice that the call itself builds -/
def Bld {α : Type} (R : Rel α) (E : TypeId) (w : World) (base : Nat) (G : Fp) (v : Value) (xs : List α) : Prop :=
  ∃ us, w.ownsRow base E 1 v us.length us ∧ us.length = xs.length ∧ ∀ (j : Nat) (u : Value) (x : α), us[j]? = some u → xs[j]? = some x → R w (fun k => some k ≠ v.ownBlock ∧ G k) u x

section
variable {α : Type} {R : Rel α} {E : TypeId} {w w' : World} {base : Nat} {G : Fp} {v : Value} {xs : List α}
theorem Bld.nil_ (R : Rel α) (E : TypeId) (w : World) (base : Nat) (G : Fp) : Bld R E w base G (.slice none 0 0) [] := ⟨[], World.ownsRow_nil _ _ _ _, rfl, fun j u x hu => by simp at hu⟩
theorem Bld.empty (R : Rel α) (E : TypeId) (w : World) (base : Nat) (G : Fp) (hb : base ≤ w.heap.size) : Bld R E (w.alloc (.cells #[] E)) base G (.slice (some ⟨w.heap.size, 0, none⟩) 0 0) [] :=
  ⟨[], World.ownsRow_made w #[] 0 hb (by simp [maxLen]) rfl, rfl, fun j u x hu => by simp at hu⟩
theorem Bld.lit (o : Ok R) {us : List Value} {w : World} {base : Nat} {G : Fp} {xs : List α} (E : TypeId) (hb : base ≤ w.heap.size) (hl : us.length = xs.length) (hm : us.length ≤ maxLen)
    (h : ∀ (j : Nat) (u : Value) (x : α), us[j]? = some u → xs[j]? = some x → R w G u x) : Bld R E (w.alloc (.cells us.toArray E)) base G (.slice (some ⟨w.heap.size, 0, none⟩) us.length us.length) xs := by
  refine ⟨us, by simpa using World.ownsRow_lit (e := E) (size := 1) w us.toArray us.length hb hm (by simp), hl, fun j u x hu hx => ?_⟩
  refine o.mono (o.keep (o.lt (h j u x hu hx)) fun k _ hl => Below.heap_alloc _ _ _ hl) fun k hk => ⟨?_, hk.1⟩
  simp only [Value.ownBlock, ne_eq, Option.some.injEq]
  have := hk.2
  omega
theorem Bld.one_ (o : Ok R) {u : Value} {w : World} {base : Nat} {G : Fp} {x : α} (h : R w G u x) (E : TypeId) (hb : base ≤ w.heap.size) : Bld R E (w.alloc (.cells #[u] E)) base G (.slice (some ⟨w.heap.size, 0, none⟩) 1 1) [x] :=
  Bld.lit o (us := [u]) (xs := [x]) E hb rfl (by simp [maxLen]) fun j u' x' hu hx => by
    match j with
    | 0 => simp at hu hx; subst hu; subst hx; exact h
    | j + 1 => simp at hu
theorem Bld.blk (h : Bld R E w base G v xs) : ∀ k, v.ownBlock = some k → base ≤ k ∧ k < w.heap.size := by
  obtain ⟨us, h1, _⟩ := h
  exact h1.lt
theorem Bld.lt (o : Ok R) (h : Bld R E w base G v xs) : Bld R E w base (fun k => G k ∧ k < w.heap.size) v xs := by
  obtain ⟨us, h1, h2, h3⟩ := h
  exact ⟨us, h1, h2, fun j u x hu hx => o.mono (o.lt (h3 j u x hu hx)) fun k hk => ⟨hk.1.1, hk.1.2, hk.2⟩⟩
theorem Bld.mono (o : Ok R) {G' : Fp} (h : Bld R E w base G v xs) (hm : ∀ k, some k ≠ v.ownBlock → G k → G' k) : Bld R E w base G' v xs := by
  obtain ⟨us, h1, h2, h3⟩ := h
  exact ⟨us, h1, h2, fun j u x hu hx => o.mono (h3 j u x hu hx) fun k hk => ⟨hk.1, hm k hk.1 hk.2⟩⟩
theorem grown_refl (w : World) (row : Option Nat) : w.grownBy w row := ⟨rfl, rfl, rfl, Nat.le_refl _, fun _ _ _ => rfl⟩
theorem Bld.keep (o : Ok R) {row : Option Nat} (h : Bld R E w base G v xs) (hg : w.grownBy w' row) (hv : v.ownBlock = none ∨ v.ownBlock ≠ row) (hG : ∀ k, some k ≠ v.ownBlock → G k → some k ≠ row) : Bld R E w' base G v xs := by
  obtain ⟨us, h1, h2, h3⟩ := h
  exact ⟨us, h1.kept hg hv, h2, fun j u x hu hx => o.keep (h3 j u x hu hx) fun k hk hl => hg.block k hl (hG k hk.1 hk.2)⟩
theorem grownBy_of_below {a b : World} (h : Below a.heap.size a b) (row : Option Nat) : a.grownBy b row := ⟨h.os, h.tape, h.output, h.size, fun i hi _ => h.block i hi⟩
theorem Bld.grow (o : Ok R) (h : Bld R E w base G v xs) (hb : Below w.heap.size w w') : Bld R E w' base G v xs := by
  refine h.keep o (row := none) (grownBy_of_below hb none) ?_ (fun _ _ _ => by simp)
  cases v.ownBlock <;> simp
theorem Bld.alloc (o : Ok R) (h : Bld R E w base G v xs) (ob : Obj) : Bld R E (w.alloc ob) base G v xs := h.grow o ((Below.refl _ _).alloc (Nat.le_refl _) _)
theorem Bld.base_ {b : Nat} (h : Bld R E w base G v xs) (hb : b ≤ base) : Bld R E w b G v xs := by
  obtain ⟨us, h1, h2, h3⟩ := h
  exact ⟨us, ⟨h1.1, h1.2.elim .inl fun ⟨g, cap, cur, hv, hg, r⟩ => .inr ⟨g, cap, cur, hv, Nat.le_trans hb hg, r⟩⟩, h2, h3⟩
theorem Bld.toRd (o : Ok R) (h : Bld R E w base G v xs) {F : Fp} (hF : ∀ k, base ≤ k → F k) (hG : ∀ k, G k → F k) : RdL R w F v xs := by
  obtain ⟨us, h1, h2, h3⟩ := h
  refine ⟨us, ?_, h2, fun j u x hu hx => o.mono (h3 j u x hu hx) fun k hk => hG k hk.2⟩
  have hc : ∀ g, v.ownBlock = some g → ∀ j u, us[j]? = some u → w.cell? ((⟨g, 0, none⟩ : Addr).add j) = some u := fun g hg => h1.cells hg
  rcases h1.2 with ⟨rfl, h0⟩ | ⟨g, cap, cur, rfl, hb, _, hn, hm, _, _⟩
  · exact ⟨none, 0, by rw [h0], by omega, by simp [maxLen], fun hp => by omega⟩
  · refine ⟨_, cap, rfl, hn, hm, fun _ => ⟨g, 0, rfl, hF g hb, fun j u hu => ?_⟩⟩
    have := hc g rfl j u hu
    have hadd : (⟨g, 0, none⟩ : Addr).add j = ⟨g, 0 + j, none⟩ := by unfold Addr.add; split <;> simp_all
    rwa [hadd] at this
theorem Bld.toRd_ (o : Ok R) (h : Bld R E w base G v xs) : RdL R w (fun k => k < w.heap.size) v xs :=
  (okL o).mono ((okL o).lt (h.toRd o (F := fun _ => True) (fun _ _ => trivial) (fun _ _ => trivial))) fun _ hk => hk.2
/-- Its shape, where it is not empty. -/
theorem Bld.form (h : Bld R E w base G v xs) (hn : 0 < xs.length) : ∃ g c, v = .slice (some ⟨g, 0, none⟩) xs.length c ∧ base ≤ g ∧ g < w.heap.size ∧ xs.length ≤ c ∧ c ≤ maxLen := by
  obtain ⟨us, h1, h2, _⟩ := h
  have hlt := h1.lt
  rcases h1.2 with ⟨rfl, h0⟩ | ⟨g, cap, cur, rfl, hb, _, hc, hm, _, _⟩
  · omega
  · exact ⟨g, cap, by rw [h2], hb, (hlt g rfl).2, by omega, hm⟩
theorem Bld.at_ {g n c : Nat} (h : Bld R E w base G (.slice (some ⟨g, 0, none⟩) n c) xs) {k : Nat} (hk : k < xs.length) :
    ∃ u, w.cell? ⟨g, k, none⟩ = some u ∧ w.frozen? ⟨g, k, none⟩ = false ∧ R w (fun k => k ≠ g ∧ G k) u xs[k] := by
  obtain ⟨us, h1, h2, h3⟩ := h
  have hn : n = us.length := by
    rcases h1.2 with ⟨hv, _⟩ | ⟨g', cap, cur, hv, _⟩
    · cases hv
    · injection hv
  subst hn
  have hk' : k < us.length := by omega
  refine ⟨us[k], ?_, h1.frozenAt k, ?_⟩
  · rw [h1.cellAt k (by omega)]; exact List.getElem?_eq_getElem hk'
  · have := h3 k _ _ (List.getElem?_eq_getElem hk') (List.getElem?_eq_getElem hk)
    simpa [Value.ownBlock] using this
/-- A store into it. -/
theorem Bld.set_ (o : Ok R) {g n c : Nat} (h : Bld R E w base G (.slice (some ⟨g, 0, none⟩) n c) xs) {k : Nat} (hk : k < xs.length) {u : Value} {x : α} (hu : R w (fun k => k ≠ g ∧ G k) u x) :
    Bld R E (w.setCell ⟨g, k, none⟩ u) base G (.slice (some ⟨g, 0, none⟩) n c) (xs.set k x) := by
  obtain ⟨us, h1, h2, h3⟩ := h
  have hn : n = us.length := by
    rcases h1.2 with ⟨hv, _⟩ | ⟨g', cap, cur, hv, _⟩
    · cases hv
    · injection hv
  subst hn
  have hk' : k < us.length := by omega
  have hother : ∀ i, i ≠ g → (w.setCell ⟨g, k, none⟩ u).heap[i]? = w.heap[i]? := fun i hi => Below.heap_setCell w ⟨g, k, none⟩ u i hi
  refine ⟨us.set k u, ?_, by simpa using h2, fun j u' x' hu' hx' => ?_⟩
  · have := (h1.stored k u).1
    simpa using this
  · by_cases hj : j = k
    · subst hj
      have e1 : u' = u := by
        rw [List.getElem?_set_self hk'] at hu'; exact (Option.some.inj hu').symm
      have e2 : x' = x := by
        rw [List.getElem?_set_self hk] at hx'; exact (Option.some.inj hx').symm
      subst e1; subst e2
      refine o.keep (F := fun k => some k ≠ Value.ownBlock (.slice (some ⟨g, 0, none⟩) us.length c) ∧ G k) (by simpa [Value.ownBlock] using hu) fun i hi _ => hother i ?_
      simpa [Value.ownBlock] using hi.1
    · rw [List.getElem?_set_ne (by omega)] at hu' hx'
      refine o.keep (h3 j u' x' hu' hx') fun i hi _ => hother i ?_
      simpa [Value.ownBlock] using hi.1
end

theorem Bld.bytes {E : TypeId} {w : World} {base : Nat} {G G' : Fp} {v : Value} {xs : Bs} (h : Bld R8 E w base G v xs) : Bld R8 E w base G' v xs := h

/-! ### append, onto what the call builds -/
section
variable {P : Program} (w : World)
theorem run_append_nilsrc (base : Nat) (t ty e : TypeId) (i : TypeInfo) (size : Nat) (ht : P.underlying t = some (.slice e)) (hi : P.info? e = some i)
    (v : Value) (n : Nat) (xs : List Value) (hown : w.ownsRow base e size v n xs) (c : Nat) : (Builtin.append_ #[t, t] ty #[v, .slice none 0 c]).run P w = .ok v w := by
  rcases hown.2 with ⟨rfl, rfl⟩ | ⟨g, cap, cur, rfl, _, _, hnc, _⟩
  · simp [Builtin.append_, run_underlying ht, sizeOf, typeInfo, hi, Builtin.lenOf, Builtin.firstCells]
  · simp [Builtin.append_, run_underlying ht, sizeOf, typeInfo, hi, Builtin.lenOf, Builtin.firstCells, hnc, storeCells]

theorem run_append_bld {α : Type} {R : Rel α} (ok : Ok R) (base : Nat) (t ty e : TypeId) (i : TypeInfo) (z : Value) (bytes : Nat) (ht : P.underlying t = some (.slice e)) (hi : P.info? e = some i) (hz : i.zero = some z)
    (hsize : i.size = 1) (hby : i.bytes = bytes) (hzs : z.cells.size = 1)
    (G : Fp) (v x : Value) (xs ys : List α) (hown : Bld R e w base G v xs) (hsrc : RdL R w (fun k => some k ≠ v.ownBlock ∧ G k) x ys)
    (h63 : xs.length + ys.length ≤ maxLen) (hbytes : (xs.length + ys.length) * bytes ≤ 140737488355328) (hbase : base ≤ w.heap.size) :
    ∃ v' w', (Builtin.append_ #[t, t] ty #[v, x]).run P w = .ok v' w' ∧ Bld R e w' base G v' (xs ++ ys) ∧ w.grownBy w' v.ownBlock ∧ (v'.ownBlock = v.ownBlock ∨ v'.ownBlock = some w.heap.size) := by
  obtain ⟨us, h1, h2, h3⟩ := hown
  obtain ⟨ns, ⟨A, c, hx, hc1, hc2, hc3⟩, hl, h4⟩ := hsrc
  subst hx
  have fin : ∀ v' w', w'.ownsRow base e 1 v' (us.length + ns.length) (us ++ ns) → w.grownBy w' v.ownBlock → (v'.ownBlock = v.ownBlock ∨ v'.ownBlock = some w.heap.size) → Bld R e w' base G v' (xs ++ ys) := by
    intro v' w' ho hg hat
    refine ⟨us ++ ns, by simpa using ho, by simp [h2, hl], fun j u y hu hy => ?_⟩
    have key : R w (fun k => some k ≠ v.ownBlock ∧ G k) u y := by
      by_cases hj : j < us.length
      · rw [List.getElem?_append_left hj] at hu
        rw [List.getElem?_append_left (by omega)] at hy
        exact h3 j u y hu hy
      · rw [List.getElem?_append_right (by omega)] at hu
        rw [List.getElem?_append_right (by omega)] at hy
        rw [h2] at hu
        exact h4 _ u y hu hy
    have key2 := ok.keep (ok.lt key) (w' := w') fun k hk hlt => hg.block k hlt hk.1.1
    refine ok.mono key2 fun k hk => ⟨?_, hk.1.2⟩
    rcases hat with e | e
    · rw [e]; exact hk.1.1
    · rw [e]; intro e2; injection e2 with e2; omega
  rcases A with _ | ad
  · have hm : ns = [] := by
      apply List.eq_nil_of_length_eq_zero
      rcases Nat.eq_zero_or_pos ns.length with h0 | h0
      · exact h0
      · obtain ⟨b, off, hA, _⟩ := hc3 h0; cases hA
    subst hm
    refine ⟨v, w, run_append_nilsrc w base t ty e i 1 ht hi v _ us h1 c, fin v w (by simpa using h1) ((grown_refl w _)) (.inl rfl), (grown_refl w _), .inl rfl⟩
  · have hcells : ∀ j u, ns[j]? = some u → w.cell? (ad.add j) = some u := by
      intro j u hu
      have h0 : 0 < ns.length := by
        rcases Nat.eq_zero_or_pos ns.length with h0 | h0
        · rw [List.eq_nil_of_length_eq_zero h0] at hu; simp at hu
        · exact h0
      obtain ⟨b, off, hA, _, hc⟩ := hc3 h0
      injection hA with hA
      subst hA
      have := hc j u hu
      have hadd : (⟨b, off, none⟩ : Addr).add j = ⟨b, off + j, none⟩ := by unfold Addr.add; split <;> simp_all
      rwa [hadd]
    obtain ⟨v', w', hrun, g1, g2, _, g4⟩ := run_append_own_at (P := P) w base t ty e i z 1 bytes ht hi hz hsize hby hzs (by omega) v us.length us h1 ad ns.length c ns (by simp) hcells
      (fun u hu => by
        obtain ⟨j, hj, hju⟩ := List.getElem_of_mem hu
        exact ok.one (h4 j u (ys[j]'(by omega)) (by rw [← hju]; exact List.getElem?_eq_getElem hj) (List.getElem?_eq_getElem _)))
      (by omega) (by rw [h2, hl]; exact hbytes) hbase
    exact ⟨v', w', hrun, fin v' w' g1 g2 g4, g2, g4⟩

/-- What is asked of a slice's type, and its elements'. -/
def SlTy (P : Program) (t e : TypeId) (bytes : Nat) : Prop :=
  ∃ i z, P.underlying t = some (.slice e) ∧ P.info? e = some i ∧ i.zero = some z ∧ i.size = 1 ∧ i.bytes = bytes ∧ z.cells.size = 1 ∧ 0 < bytes

/-- AT THE OPERATION 'append(v, ..)', v the call's own. -/
theorem wpList_append_bld {ops : Array Oper} {rest : List Oper} {o : Oper} {a : Act} {Q : Exit → Act → World → Prop} (hgd : o.guard = none) (s x : Operand) (t : TypeId)
    (ho : o.op = .call { callee := .builtin .append, args := #[s, x], argTypes := #[t, t] })
    {α : Type} {R : Rel α} (ok : Ok R) {e : TypeId} {bytes : Nat} (T : SlTy P t e bytes) (base : Nat) (G : Fp) (v xv : Value) (xs ys : List α) (hs : a.eval s = v) (hx : a.eval x = xv)
    (hown : Bld R e w base G v xs) (hsrc : RdL R w (fun k => some k ≠ v.ownBlock ∧ G k) xv ys)
    (hbytes : (xs.length + ys.length) * bytes ≤ 140737488355328) (hbase : base ≤ w.heap.size)
    (h : ∀ v' w', Bld R e w' base G v' (xs ++ ys) → Below base w w' → w.grownBy w' v.ownBlock → (v'.ownBlock = v.ownBlock ∨ v'.ownBlock = some w.heap.size) → wpList P ops Q rest (a.put o.dst v') w') : wpList P ops Q (o :: rest) a w := by
  refine wpList_plain hgd fun K hK => ?_
  obtain ⟨i, z, ht, hi, hz, hsize, hby, hzs, hpos⟩ := T
  have h63 : xs.length + ys.length ≤ maxLen := by
    have : (xs.length + ys.length) * 1 ≤ (xs.length + ys.length) * bytes := Nat.mul_le_mul_left _ hpos
    unfold maxLen
    omega
  obtain ⟨v', w', hr, h2, h3, h4⟩ := run_append_bld (P := P) w ok base t o.type e i z bytes ht hi hz hsize hby hzs G v xv xs ys hown hsrc h63 hbytes hbase
  unfold Oper.wp execOp
  simp only [ho, resolve, invoke, builtin, Sem.run_bind, Sem.run_pure, Result.andThen_ok, List.map_toArray, List.map_cons, List.map_nil, hs, hx, hr]
  exact hK _ _ (h v' w' h2 ((Below.refl base w).grown h3 hbase fun k hk => (hown.blk k hk).1) h3 h4)
end

/-- []byte(constant). -/
theorem rd_const (w : World) (b : Bs) (e : TypeId) (m : Nat × Nat) (hm : b.length ≤ maxLen) : RdB (w.alloc (.cells (b.map B8).toArray e m)) (fun _ => True) (.slice (some ⟨w.heap.size, 0, none⟩) b.length b.length) b := by
  have h := RdL.newM_ (w := w) ok8 (us := b.map B8) (xs := b) (F := fun _ => True) e m (by simp) (by simpa using hm) trivial fun j u x hu hx => by
    simp at hu
    obtain ⟨c, hc, rfl⟩ := hu
    rw [hc] at hx
    injection hx with hx
    subst hx
    rfl
  simpa using h
/-! ### string(b) -/
def strB (b : Bs) : ByteArray := ⟨b.toArray⟩
theorem strB_inj {a b : Bs} (h : strB a = strB b) : a = b := by
  have := congrArg (fun s : ByteArray => s.data.toList) h
  simpa [strB] using this
theorem strB_toList (b : Bs) : (strB b).toList = b := Go.ByteArray.toList_mk b
theorem run_conv {P : Program} {w : World} {F : Fp} {v : Value} {b : Bs} (h : RdB w F v b) {src e dst : TypeId} (hs : P.underlying src = some (.slice e)) (he : P.underlying e = some (.int .u8)) (hd : P.underlying dst = some .string) :
    (convert src dst v).run P w = .ok (.string (strB b)) w := by
  obtain ⟨A, c, rfl, _, _⟩ := h.shape
  by_cases h0 : b.length = 0
  · obtain rfl : b = [] := List.eq_nil_of_length_eq_zero h0
    rw [run_convert_bytes_string w src dst e _ _ c hs he hd]
    cases A with
    | none => simp [Conv.bytesToString]; rfl
    | some a =>
      show (Conv.bytesToString (Value.slice (some a) 0 c)).run P w = _
      rw [run_bytesToString w a 0 c [] (by simp [loadCells, loadCellsFrom])]
      rfl
  · obtain ⟨bb, off, u, rfl, _, _, _⟩ := h.at_ (k := 0) (by omega)
    rw [run_convert_bytes_arg w src e hs he bb off b.length c (b.map fun x => (x.toNat : Int)) (by simp) (fun i hi => ?_) dst hd]
    · congr 2
      unfold strOfNums strB
      rw [List.map_map]
      congr 1
      congr 1
      have : ((fun n : Int => UInt8.ofNat n.toNat) ∘ fun x : UInt8 => (x.toNat : Int)) = id := by funext x; simp
      rw [this, List.map_id]
    · obtain ⟨b', o', u, hA, _, hc, hR⟩ := h.at_ hi
      injection hA with hA
      injection hA with e1 e2
      subst e1; subst e2
      rw [hc, hR]
      simp [B8, hi]

theorem strB_add (a b : Bs) : strB a ++ strB b = strB (a ++ b) := by
  apply ByteArray.ext
  simp [strB]
theorem strB_size (a : Bs) : (strB a).size = a.length := by simp [strB, ByteArray.size]
/-- []byte(s): in a new block. -/
theorem run_bytes {P : Program} (w : World) (b : Bs) {src dst e : TypeId} (hs : P.underlying src = some .string) (hd : P.underlying dst = some (.slice e)) (he : P.underlying e = some (.int .u8)) (hm : b.length ≤ maxLen) :
    ∃ c w', (convert src dst (.string (strB b))).run P w = .ok (.slice (some ⟨w.heap.size, 0, none⟩) b.length c) w' ∧ RdB w' (fun _ => True) (.slice (some ⟨w.heap.size, 0, none⟩) b.length c) b ∧ Below w.heap.size w w' := by
  have h := run_bytes_of_string (P := P) w src dst e (strB b) hs hd he
  rw [strB_size] at h
  refine ⟨grownCap w b.length 0 e, _, h, ?_, ?_⟩
  · refine ⟨b.map B8, ⟨some ⟨w.heap.size, 0, none⟩, grownCap w b.length 0 e, by rw [List.length_map], by rw [List.length_map]; exact grownCap_ge w b.length 0 e, grownCap_le_maxLen w b.length 0 e hm, fun hn => ⟨_, 0, rfl, trivial, fun j u hu => ?_⟩⟩, by rw [List.length_map], fun j u x hu hx => ?_⟩
    · rw [List.getElem?_map] at hu
      obtain ⟨c, hc, rfl⟩ := Option.map_eq_some_iff.1 hu
      obtain ⟨hj, hjc⟩ := List.getElem?_eq_some_iff.1 hc
      rw [cell_of_row (w.drew.alloc _) w.heap.size (0 + j) _ e _ (heap_alloc_new w.drew _), Nat.zero_add, bytesRow_at (strB b) _ j (by simpa [strB] using hj)]
      simp [strB, B8, hjc]
    · rw [List.getElem?_map] at hu
      obtain ⟨c, hc, rfl⟩ := Option.map_eq_some_iff.1 hu
      rw [hc] at hx
      injection hx with hx
      subst hx
      rfl
  · exact ((Below.refl _ _).drew).alloc (Nat.le_refl _) _
end Go.Proofs.YtdcmbdghnkgghaaDoor.M

namespace Go.Proofs.YtdcmbdghnkgghaaDoor.M
set_option linter.unusedVariables false
open Go Go.RowKit
theorem alloc_size (w : World) (o : Obj) : (w.alloc o).heap.size = w.heap.size + 1 := by
  unfold World.alloc
  exact Array.size_push _
/-- One element, of a block that is laid for it, ahead of 'append(v, x)'. -/
theorem src_one {α : Type} {R R' : Rel α} (o : Ok R) {E : TypeId} {w : World} {base : Nat} {G : Fp} {v : Value} {xs : List α} (hO : Bld R' E w base G v xs) (hG : G w.heap.size) {u : Value} {x : α} (h : R w (fun k => some k ≠ v.ownBlock ∧ G k) u x) (e : TypeId) {n : Nat} (hn : w.heap.size = n) :
    RdL R (w.alloc (.cells #[u] e)) (fun k => some k ≠ v.ownBlock ∧ G k) (.slice (some ⟨n, 0, none⟩) 1 1) [x] := by
  subst hn
  exact RdL.one_ o h e ⟨not_own fun k hk => (hO.blk k hk).2, hG⟩
/-- A record of four cells, boxed. -/
structure Boxed4 (w : World) (b : Nat) (a0 a1 a2 a3 : Value) : Prop where
  c0 : w.cell? ⟨b, 0, none⟩ = some a0
  c1 : w.cell? ⟨b, 1, none⟩ = some a1
  c2 : w.cell? ⟨b, 2, none⟩ = some a2
  c3 : w.cell? ⟨b, 3, none⟩ = some a3
  lt : b < w.heap.size
theorem Boxed4.keep {w w' : World} {b : Nat} {a0 a1 a2 a3 : Value} (h : Boxed4 w b a0 a1 a2 a3) {B : Nat} (hb : Below B w w') (hB : b < B) : Boxed4 w' b a0 a1 a2 a3 :=
  ⟨(hb.cell hB).trans h.c0, (hb.cell hB).trans h.c1, (hb.cell hB).trans h.c2, (hb.cell hB).trans h.c3, Nat.lt_of_lt_of_le h.lt hb.size⟩
theorem boxed4_new (w : World) (a0 a1 a2 a3 : Value) (T : TypeId) : Boxed4 (w.alloc (.cells #[a0, a1, a2, a3] T)) w.heap.size a0 a1 a2 a3 :=
  ⟨cell_of_row _ _ 0 _ _ _ (heap_alloc_new w _), cell_of_row _ _ 1 _ _ _ (heap_alloc_new w _), cell_of_row _ _ 2 _ _ _ (heap_alloc_new w _), cell_of_row _ _ 3 _ _ _ (heap_alloc_new w _), by rw [alloc_size]; omega⟩
/-- A record of two cells, boxed. -/
structure Boxed2 (w : World) (b : Nat) (a0 a1 : Value) : Prop where
  c0 : w.cell? ⟨b, 0, none⟩ = some a0
  c1 : w.cell? ⟨b, 1, none⟩ = some a1
  lt : b < w.heap.size
theorem Boxed2.keep {w w' : World} {b : Nat} {a0 a1 : Value} (h : Boxed2 w b a0 a1) {B : Nat} (hb : Below B w w') (hB : b < B) : Boxed2 w' b a0 a1 :=
  ⟨(hb.cell hB).trans h.c0, (hb.cell hB).trans h.c1, Nat.lt_of_lt_of_le h.lt hb.size⟩
theorem boxed2_new (w : World) (a0 a1 : Value) (T : TypeId) : Boxed2 (w.alloc (.cells #[a0, a1] T)) w.heap.size a0 a1 :=
  ⟨cell_of_row _ _ 0 _ _ _ (heap_alloc_new w _), cell_of_row _ _ 1 _ _ _ (heap_alloc_new w _), by rw [alloc_size]; omega⟩
end Go.Proofs.YtdcmbdghnkgghaaDoor.M

namespace Go.Proofs.YtdcmbdghnkgghaaDoor.M
set_option linter.unusedVariables false
open Go Go.RowKit
theorem heap_lt {w w' : World} {k : Nat} (h : w'.heap[k]? = w.heap[k]?) (hk : k < w.heap.size) : k < w'.heap.size := by
  rw [Array.getElem?_eq_getElem hk] at h
  exact (Array.getElem?_eq_some_iff.1 h).1
theorem RdL.map_ {α β : Type} {R : Rel α} {R' : Rel β} {w : World} {F F' : Fp} {v : Value} {xs : List α} (f : α → β) (h : RdL R w F v xs) (hF : ∀ k, F k → F' k) (hm : ∀ u x, x ∈ xs → R w F u x → R' w F' u (f x)) : RdL R' w F' v (xs.map f) := by
  obtain ⟨us, h1, h2, h3⟩ := h
  refine ⟨us, h1.mono hF, by simpa using h2, fun j u x hu hx => ?_⟩
  rw [List.getElem?_map] at hx
  obtain ⟨y, hy, rfl⟩ := Option.map_eq_some_iff.1 hx
  exact hm u y (List.mem_of_getElem? hy) (h3 j u y hu hy)
/-- One of its elements, where the slice's block is told. -/
theorem RdL_q {α : Type} {R : Rel α} {w : World} {F : Fp} {xs : List α} {b off n c : Nat} (h : RdL R w F (.slice (some ⟨b, off, none⟩) n c) xs) {k : Nat} {x : α} (hk : xs[k]? = some x) : ∃ u, w.cell? ⟨b, off + k, none⟩ = some u ∧ R w F u x := by
  obtain ⟨hlt, hx⟩ := List.getElem?_eq_some_iff.1 hk
  obtain ⟨b', off', u, hA, _, hu, hR⟩ := h.at_ hlt
  injection hA with hA
  injection hA with e1 e2
  subst e1; subst e2
  exact ⟨u, hu, hx ▸ hR⟩
/-- The shape of a slice that is not empty. -/
theorem RdL.form {α : Type} {R : Rel α} {w : World} {F : Fp} {v : Value} {xs : List α} (h : RdL R w F v xs) (hn : 0 < xs.length) : ∃ b off c, v = .slice (some ⟨b, off, none⟩) xs.length c ∧ F b ∧ b < w.heap.size ∧ xs.length ≤ c ∧ c ≤ maxLen := by
  obtain ⟨A, c, rfl, h1, h2⟩ := h.shape
  obtain ⟨b, off, u, rfl, hF, hu, _⟩ := h.at_ hn
  exact ⟨b, off, c, rfl, hF, World.block_lt_of_cell? _ _ hu, h1, h2⟩
theorem ownsRow_keep {w w' : World} {base : Nat} {e : TypeId} {size : Nat} {v : Value} {n : Nat} {xs : List Value} (h : w.ownsRow base e size v n xs) (hk : ∀ k, v.ownBlock = some k → w'.heap[k]? = w.heap[k]?) : w'.ownsRow base e size v n xs := by
  refine ⟨h.1, ?_⟩
  rcases h.2 with h0 | ⟨g, cap, cur, hv, hb, hg, r⟩
  · exact .inl h0
  · subst hv
    exact .inr ⟨g, cap, cur, rfl, hb, (hk g rfl).trans hg, r⟩
section
variable {α : Type} {R : Rel α} {E : TypeId} {w w' : World} {base : Nat} {F G : Fp} {v : Value} {xs : List α}
theorem Bld.keepF (o : Ok R) (h : Bld R E w base G v xs) (hv : ∀ k, v.ownBlock = some k → w'.heap[k]? = w.heap[k]?) (hG : ∀ k, some k ≠ v.ownBlock → G k → k < w.heap.size → w'.heap[k]? = w.heap[k]?) : Bld R E w' base G v xs := by
  obtain ⟨us, h1, h2, h3⟩ := h
  exact ⟨us, ownsRow_keep h1 hv, h2, fun j u x hu hx => o.keep (h3 j u x hu hx) fun k hk hl => hG k hk.1 hk.2 hl⟩
/-- A slice that may be stored into: its own block lies in F too. -/
def OwnV (R : Rel α) (E : TypeId) : Rel (List α) := fun w F v xs => Bld R E w 0 F v xs ∧ ∀ k, v.ownBlock = some k → F k
theorem Bld.one' (h : Bld R E w base G v xs) : v.oneCell' = true := by
  obtain ⟨us, h1, _⟩ := h
  rcases h1.2 with ⟨rfl, _⟩ | ⟨g, cap, cur, rfl, _⟩ <;> rfl
theorem okV (o : Ok R) : Ok (OwnV R E) where
  mono := fun h hm => ⟨h.1.mono o fun k _ hk => hm k hk, fun k hk => hm k (h.2 k hk)⟩
  keep := fun h hk => ⟨h.1.keepF o (fun k hk' => hk k (h.2 k hk') (h.1.blk k hk').2) fun k _ hG hl => hk k hG hl, h.2⟩
  lt := fun h => ⟨h.1.lt o, fun k hk => ⟨h.2 k hk, (h.1.blk k hk).2⟩⟩
  one := fun h => h.1.one'
theorem OwnV.toRd (o : Ok R) (h : OwnV R E w F v xs) : RdL R w F v xs := by
  obtain ⟨us, h1, h2, h3⟩ := h.1
  refine ⟨us, ?_, h2, fun j u x hu hx => o.mono (h3 j u x hu hx) fun k hk => hk.2⟩
  rcases h1.2 with ⟨rfl, h0⟩ | ⟨g, cap, cur, rfl, hb, _, hn, hm, _, _⟩
  · exact ⟨none, 0, by rw [h0], by omega, by simp [maxLen], fun hp => by omega⟩
  · refine ⟨_, cap, rfl, hn, hm, fun _ => ⟨g, 0, rfl, h.2 g rfl, fun j u hu => ?_⟩⟩
    have := h1.cells rfl j u hu
    have hadd : (⟨g, 0, none⟩ : Addr).add j = ⟨g, 0 + j, none⟩ := by unfold Addr.add; split <;> simp_all
    rwa [hadd] at this
theorem OwnV.of (h : Bld R E w base G v xs) (o : Ok R) (hb : ∀ k, base ≤ k → F k) (hG : ∀ k, G k → F k) : OwnV R E w F v xs :=
  ⟨(h.base_ (Nat.zero_le _)).mono o fun k _ hk => hG k hk, fun k hk => hb k (h.blk k hk).1⟩
/-- With the element's blocks told. -/
def G1 (R : Rel α) : Rel (α × Fp) := fun w F u x => R w x.2 u x.1 ∧ ∀ k, x.2 k → F k ∧ k < w.heap.size
theorem okG (o : Ok R) : Ok (G1 R) where
  mono := fun h hm => ⟨h.1, fun k hk => ⟨hm k (h.2 k hk).1, (h.2 k hk).2⟩⟩
  keep := fun h hk => ⟨o.keep h.1 fun k hx hl => hk k (h.2 k hx).1 hl, fun k hx => ⟨(h.2 k hx).1, heap_lt (hk k (h.2 k hx).1 (h.2 k hx).2) (h.2 k hx).2⟩⟩
  lt := fun h => ⟨h.1, fun k hk => ⟨h.2 k hk, (h.2 k hk).2⟩⟩
  one := fun h => o.one h.1
/-- No two have a block in common. -/
def Apart (fs : List Fp) : Prop := ∀ (i j : Nat) (f g : Fp), fs[i]? = some f → fs[j]? = some g → i ≠ j → ∀ k, f k → ¬ g k
theorem Apart.snoc {fs : List Fp} (h : Apart fs) {f : Fp} (hf : ∀ g, g ∈ fs → ∀ k, g k → ¬ f k) : Apart (fs ++ [f]) := by
  intro i j a b hi hj hij k ha hb
  rcases Nat.lt_or_ge i fs.length with h1 | h1 <;> rcases Nat.lt_or_ge j fs.length with h2 | h2
  · rw [List.getElem?_append_left h1] at hi
    rw [List.getElem?_append_left h2] at hj
    exact h i j a b hi hj hij k ha hb
  · rw [List.getElem?_append_left h1] at hi
    rw [List.getElem?_append_right h2] at hj
    have : j - fs.length = 0 := by have := (List.getElem?_eq_some_iff.1 hj).1; simp at this; omega
    rw [this] at hj
    simp at hj
    subst hj
    exact hf a (List.mem_of_getElem? hi) k ha hb
  · rw [List.getElem?_append_right h1] at hi
    rw [List.getElem?_append_left h2] at hj
    have : i - fs.length = 0 := by have := (List.getElem?_eq_some_iff.1 hi).1; simp at this; omega
    rw [this] at hi
    simp at hi
    subst hi
    exact hf b (List.mem_of_getElem? hj) k hb ha
  · have h3 := (List.getElem?_eq_some_iff.1 hi).1
    have h4 := (List.getElem?_eq_some_iff.1 hj).1
    simp at h3 h4
    omega
theorem Apart.set {fs : List Fp} (h : Apart fs) {j : Nat} {f : Fp} (hf : ∀ (i : Nat) (g : Fp), fs[i]? = some g → i ≠ j → ∀ k, g k → ¬ f k) : Apart (fs.set j f) := by
  intro a b p q ha hb hab k hp hq
  by_cases h1 : a = j
  · subst h1
    have hl : a < fs.length := by have := (List.getElem?_eq_some_iff.1 ha).1; simpa using this
    rw [List.getElem?_set_self hl] at ha
    injection ha with ha
    subst ha
    rw [List.getElem?_set_ne hab] at hb
    exact hf b q hb (Ne.symm hab) k hq hp
  · rw [List.getElem?_set_ne (Ne.symm h1)] at ha
    by_cases h2 : b = j
    · subst h2
      have hl : b < fs.length := by have := (List.getElem?_eq_some_iff.1 hb).1; simpa using this
      rw [List.getElem?_set_self hl] at hb
      injection hb with hb
      subst hb
      exact hf a p ha h1 k hp hq
    · rw [List.getElem?_set_ne (Ne.symm h2)] at hb
      exact h a b p q ha hb hab k hp hq
/-- A slice whose elements lie apart. -/
def OwnL (R : Rel α) (E : TypeId) : Rel (List α) := fun w F v xs => ∃ fs : List Fp, fs.length = xs.length ∧ Apart fs ∧ OwnV (G1 R) E w F v (xs.zip fs)
theorem okO (o : Ok R) : Ok (OwnL R E) where
  mono := fun ⟨fs, h1, h2, h3⟩ hm => ⟨fs, h1, h2, (okV (okG o)).mono h3 hm⟩
  keep := fun ⟨fs, h1, h2, h3⟩ hk => ⟨fs, h1, h2, (okV (okG o)).keep h3 hk⟩
  lt := fun ⟨fs, h1, h2, h3⟩ => ⟨fs, h1, h2, (okV (okG o)).lt h3⟩
  one := fun ⟨_, _, _, h3⟩ => (okV (okG o)).one h3
theorem zip_fst {β : Type} (xs : List α) (fs : List β) (h : fs.length = xs.length) : (xs.zip fs).map Prod.fst = xs := by
  rw [List.map_fst_zip (by omega)]
theorem OwnL.toRd (o : Ok R) {R' : Rel α} (hR : ∀ {F u x}, R w F u x → R' w F u x) (ho : Ok R') (h : OwnL R E w F v xs) : RdL R' w F v xs := by
  obtain ⟨fs, h1, h2, h3⟩ := h
  have := (h3.toRd (okG o)).map_ (R' := R') (F' := F) Prod.fst (fun _ hk => hk) fun u x _ hx => ho.mono (hR hx.1) fun k hk => (hx.2 k hk).1
  rwa [zip_fst xs fs h1] at this
theorem Bld.imp {β : Type} {S : Rel β} (f : α → β) (h : Bld R E w base G v xs) (hm : ∀ {F u x}, R w F u x → S w F u (f x)) : Bld S E w base G v (xs.map f) := by
  obtain ⟨us, h1, h2, h3⟩ := h
  refine ⟨us, h1, by simpa using h2, fun j u x hu hx => ?_⟩
  rw [List.getElem?_map] at hx
  obtain ⟨y, hy, rfl⟩ := Option.map_eq_some_iff.1 hx
  exact hm (h3 j u y hu hy)
theorem OwnL.imp {S : Rel α} (h : OwnL R E w F v xs) (hm : ∀ {F u x}, R w F u x → S w F u x) : OwnL S E w F v xs := by
  obtain ⟨fs, h1, h2, h3⟩ := h
  refine ⟨fs, h1, h2, ?_, h3.2⟩
  have := h3.1.imp (S := G1 S) id fun {F u x} hx => ⟨hm hx.1, hx.2⟩
  simpa using this
/-- Its elements, with the blocks of each. -/
theorem OwnL.els (h : OwnL R E w F v xs) : ∃ fs : List Fp, fs.length = xs.length ∧ Apart fs ∧ ∀ j x f, xs[j]? = some x → fs[j]? = some f → (∀ k, f k → F k ∧ some k ≠ v.ownBlock ∧ k < w.heap.size) ∧ ∀ g n c, v = .slice (some ⟨g, 0, none⟩) n c → ∃ u, w.cell? ⟨g, j, none⟩ = some u ∧ R w f u x := by
  obtain ⟨fs, h1, h2, h3⟩ := h
  refine ⟨fs, h1, h2, fun j x f hx hf => ?_⟩
  obtain ⟨us, r1, r2, r3⟩ := h3.1
  have hlz : (xs.zip fs).length = xs.length := by simp [h1]
  have hj : j < us.length := by have := (List.getElem?_eq_some_iff.1 hx).1; omega
  have hz : (xs.zip fs)[j]? = some (x, f) := by rw [List.getElem?_zip_eq_some]; exact ⟨hx, hf⟩
  have hr := r3 j us[j] (x, f) (List.getElem?_eq_getElem hj) hz
  refine ⟨fun k hk => ⟨(hr.2 k hk).1.2, (hr.2 k hk).1.1, (hr.2 k hk).2⟩, fun g n c hv => ⟨us[j], ?_, hr.1⟩⟩
  subst hv
  have hn : n = us.length := by
    rcases r1.2 with ⟨hv, _⟩ | ⟨g', cap, cur, hv, _⟩
    · cases hv
    · injection hv
  subst hn
  rw [r1.cellAt j (by omega)]
  exact List.getElem?_eq_getElem hj
theorem OwnL.nil_ (R : Rel α) (E : TypeId) (w : World) (F : Fp) : OwnL R E w F (.slice none 0 0) [] :=
  ⟨[], rfl, fun i j f g hi => by simp at hi, Bld.nil_ _ _ _ _ _, fun k hk => by simp [Value.ownBlock] at hk⟩
theorem OwnL.blk (h : OwnL R E w F v xs) : ∀ k, v.ownBlock = some k → F k ∧ k < w.heap.size := by
  obtain ⟨fs, h1, h2, h3⟩ := h
  exact fun k hk => ⟨h3.2 k hk, (h3.1.blk k hk).2⟩
theorem OwnL.form (h : OwnL R E w F v xs) (hn : 0 < xs.length) : ∃ g c, v = .slice (some ⟨g, 0, none⟩) xs.length c ∧ F g ∧ g < w.heap.size ∧ xs.length ≤ c ∧ c ≤ maxLen := by
  obtain ⟨fs, h1, h2, h3⟩ := h
  have hl : (xs.zip fs).length = xs.length := by simp [h1]
  obtain ⟨g, c, hv, _, a, b, d⟩ := h3.1.form (by omega)
  rw [hl] at hv b
  exact ⟨g, c, hv, h3.2 g (by rw [hv]; rfl), a, b, d⟩
/-- One of them: it may turn inside its own blocks, and new ones, and the others are what they were. -/
theorem OwnL.inner (o : Ok R) {g n c : Nat} (h : OwnL R E w F (.slice (some ⟨g, 0, none⟩) n c) xs) {j : Nat} (hj : j < xs.length) :
    ∃ u f, w.cell? ⟨g, j, none⟩ = some u ∧ w.frozen? ⟨g, j, none⟩ = false ∧ R w f u xs[j] ∧ (∀ k, f k → F k ∧ k ≠ g ∧ k < w.heap.size) ∧
      ∀ (w' : World) (f' : Fp) (y : α), (∀ k, k < w.heap.size → ¬ f k → F k → w'.heap[k]? = w.heap[k]?) → R w' f' u y → (∀ k, f' k → (f k ∨ ¬ F k) ∧ k < w'.heap.size) →
        OwnL R E w' (fun k => F k ∨ f' k) (.slice (some ⟨g, 0, none⟩) n c) (xs.set j y) := by
  obtain ⟨fs, h1, h2, h3⟩ := h
  have hjz : j < (xs.zip fs).length := by simp; omega
  have hjf : j < fs.length := by omega
  obtain ⟨us, r1, r2, r3⟩ := h3.1
  have hn : n = us.length := by
    rcases r1.2 with ⟨hv, _⟩ | ⟨g', cap, cur, hv, _⟩
    · cases hv
    · injection hv
  have hju : j < us.length := by omega
  have hz : (xs.zip fs)[j]? = some (xs[j], fs[j]) := by rw [List.getElem?_eq_getElem hjz]; simp
  have hu := r3 j us[j] (xs[j], fs[j]) (List.getElem?_eq_getElem hju) hz
  have hgF : F g := h3.2 g rfl
  have hgl : g < w.heap.size := (h3.1.blk g rfl).2
  have hfj : ∀ k, fs[j] k → F k ∧ k ≠ g ∧ k < w.heap.size := fun k hk => by
    have := hu.2 k hk
    refine ⟨this.1.2, ?_, this.2⟩
    simpa [Value.ownBlock] using this.1.1
  subst hn
  refine ⟨us[j], fs[j], ?_, r1.frozenAt j, hu.1, hfj, fun w' f' y hw hy hf' => ?_⟩
  · rw [r1.cellAt j (by omega)]; exact List.getElem?_eq_getElem hju
  · have hkeep : ∀ k, k < w.heap.size → ¬ fs[j] k → F k → w'.heap[k]? = w.heap[k]? := hw
    have hgk : w'.heap[g]? = w.heap[g]? := hkeep g hgl (fun hc => (hfj g hc).2.1 rfl) hgF
    refine ⟨fs.set j f', by simp [h1], h2.set fun i p hi hij k hp hf => ?_, ⟨us, ownsRow_keep r1 fun k hk => ?_, by simpa [h1] using r2, fun i u x hui hxi => ?_⟩, fun k hk => .inl (h3.2 k hk)⟩
    · have hil : i < fs.length := (List.getElem?_eq_some_iff.1 hi).1
      have hxi : (xs.zip fs)[i]? = some (xs[i]'(by omega), p) := by
        rw [List.getElem?_eq_getElem (by simp; omega)]
        simp
        rw [List.getElem?_eq_getElem hil] at hi
        injection hi
      have hpk := (r3 i (us[i]'(by simp at r2; omega)) (xs[i]'(by omega), p) (List.getElem?_eq_getElem _) hxi).2 k hp
      rcases (hf' k hf).1 with hc | hc
      · exact h2 i j p fs[j] hi (List.getElem?_eq_getElem hjf) hij k hp hc
      · exact hc hpk.1.2
    · obtain rfl : g = k := by simpa [Value.ownBlock] using hk
      exact hgk
    · have hgne : ∀ k, fs[j] k → k ≠ g := fun k hk => (hfj k hk).2.1
      by_cases hij : i = j
      · subst hij
        have e1 : u = us[i] := by rw [List.getElem?_eq_getElem hju] at hui; exact (Option.some.inj hui).symm
        have e2 : x = (y, f') := by
          rw [List.getElem?_eq_getElem (by simp; omega)] at hxi
          have := Option.some.inj hxi
          rw [← this]
          simp
        subst e1; subst e2
        refine ⟨hy, fun k hk => ⟨⟨?_, ?_⟩, (hf' k hk).2⟩⟩
        · rcases (hf' k hk).1 with hc | hc
          · simpa [Value.ownBlock] using hgne k hc
          · simp only [Value.ownBlock, ne_eq, Option.some.injEq]
            exact fun e => hc (e ▸ hgF)
        · exact .inr hk
      · have hil : i < us.length := (List.getElem?_eq_some_iff.1 hui).1
        have hzl : (xs.zip fs).length = xs.length := by simp [h1]
        have hif : i < fs.length := by omega
        have hix : i < xs.length := by omega
        have hxo : (xs.zip fs)[i]? = some x := by
          rw [List.getElem?_eq_getElem (by simp; omega)] at hxi ⊢
          have := Option.some.inj hxi
          rw [← this]
          simp [List.getElem_set_ne (Ne.symm hij)]
        have hrx := r3 i u x hui hxo
        have hx2 : fs[i]? = some x.2 := by
          rw [List.getElem?_eq_getElem (by simp; omega)] at hxo
          have := Option.some.inj hxo
          rw [← this]
          simp
        refine (okG o).mono ((okG o).keep (F := fun k => x.2 k) ⟨hrx.1, fun k hk => ⟨hk, (hrx.2 k hk).2⟩⟩ fun k hk hl => hkeep k hl (fun hc => h2 i j x.2 fs[j] hx2 (List.getElem?_eq_getElem hjf) hij k hk hc) (hrx.2 k hk).1.2) fun k hk => ?_
        exact ⟨(hrx.2 k hk).1.1, .inl (hrx.2 k hk).1.2⟩
/-- A store of another element. -/
theorem OwnL.put (o : Ok R) {g n c : Nat} (h : OwnL R E w F (.slice (some ⟨g, 0, none⟩) n c) xs) {j : Nat} (hj : j < xs.length) {u : Value} {y : α} {f' : Fp} (hu : R w f' u y) (hf' : ∀ k, f' k → ¬ F k ∧ k < w.heap.size) :
    OwnL R E (w.setCell ⟨g, j, none⟩ u) (fun k => F k ∨ f' k) (.slice (some ⟨g, 0, none⟩) n c) (xs.set j y) := by
  obtain ⟨fs, h1, h2, h3⟩ := h
  have hjz : j < (xs.zip fs).length := by simp; omega
  have hg : F g := h3.2 g rfl
  have h3' : Bld (G1 R) E w 0 (fun k => F k ∨ f' k) (.slice (some ⟨g, 0, none⟩) n c) (xs.zip fs) := h3.1.mono (okG o) fun k _ hk => .inl hk
  have hset := h3'.set_ (okG o) hjz (u := u) (x := (y, f')) ⟨hu, fun k hk => ⟨⟨fun e => (hf' k hk).1 (e ▸ hg), .inr hk⟩, (hf' k hk).2⟩⟩
  have hz : (xs.zip fs).set j (y, f') = (xs.set j y).zip (fs.set j f') := by
    apply List.ext_getElem?
    intro i
    by_cases hij : i = j
    · subst hij
      rw [List.getElem?_set_self hjz, List.getElem?_eq_getElem (by simp; omega)]
      simp
    · rw [List.getElem?_set_ne (Ne.symm hij)]
      simp only [List.zip, List.getElem?_zipWith, List.getElem?_set_ne (Ne.symm hij)]
  rw [hz] at hset
  refine ⟨fs.set j f', by simp [h1], h2.set fun i p hi hij k hp hf => ?_, hset, fun k hk => .inl (h3.2 k hk)⟩
  obtain ⟨us, r1, r2, r3⟩ := h3.1
  have hil : i < fs.length := (List.getElem?_eq_some_iff.1 hi).1
  have hxi : (xs.zip fs)[i]? = some (xs[i]'(by omega), p) := by
    rw [List.getElem?_eq_getElem (by simp; omega)]
    simp
    rw [List.getElem?_eq_getElem hil] at hi
    injection hi
  have hpk := (r3 i (us[i]'(by simp at r2; omega)) (xs[i]'(by omega), p) (List.getElem?_eq_getElem _) hxi).2 k hp
  exact (hf' k hf).1 hpk.1.2
theorem ownsRow_up {w : World} {base b : Nat} {e : TypeId} {size : Nat} {v : Value} {n : Nat} {xs : List Value} (h : w.ownsRow base e size v n xs) (hb : ∀ k, v.ownBlock = some k → b ≤ k) : w.ownsRow b e size v n xs := by
  refine ⟨h.1, ?_⟩
  rcases h.2 with h0 | ⟨g, cap, cur, hv, _, r⟩
  · exact .inl h0
  · subst hv
    exact .inr ⟨g, cap, cur, rfl, hb g rfl, r⟩
theorem OwnV.bld {b : Nat} (h : OwnV R E w F v xs) (hF : ∀ k, F k → b ≤ k) : Bld R E w b F v xs := by
  obtain ⟨us, h1, h2, h3⟩ := h.1
  exact ⟨us, ownsRow_up h1 fun k hk => hF k (h.2 k hk), h2, h3⟩
end
section
variable {P : Program} {α : Type} {R : Rel α} {e : TypeId} {bytes : Nat}
/-- AT THE OPERATION 'append(v, x)', v the call's own, x laid just ahead of it. -/
theorem wpList_append_one {w : World} {ops : Array Oper} {rest : List Oper} {o : Oper} {a : Act} {Q : Exit → Act → World → Prop} (hgd : o.guard = none) (s x : Operand) (t : TypeId)
    (ho : o.op = .call { callee := .builtin .append, args := #[s, x], argTypes := #[t, t] }) (ok : Ok R) (T : SlTy P t e bytes) {u : Value} {e' : TypeId} (base : Nat) (v : Value) (xs : List α) (y : α) (n : Nat) (hn : w.heap.size = n)
    (hs : a.eval s = v) (hx : a.eval x = .slice (some ⟨n, 0, none⟩) 1 1) (hown : Bld R e w base (fun _ => True) v xs) (hu : R w (fun k => some k ≠ v.ownBlock) u y)
    (hbytes : (xs.length + 1) * bytes ≤ 140737488355328) (hbase : base ≤ w.heap.size)
    (h : ∀ v' w', Bld R e w' base (fun _ => True) v' (xs ++ [y]) → Below base w w' → wpList P ops Q rest (a.put o.dst v') w') : wpList P ops Q (o :: rest) a (w.alloc (.cells #[u] e')) := by
  subst hn
  refine wpList_append_bld (w.alloc (.cells #[u] e')) hgd s x t ho ok T base (fun _ => True) v _ xs [y] hs hx (hown.alloc ok _) (src_one ok hown trivial (ok.mono hu fun k hk => ⟨hk, trivial⟩) e' rfl) (by simpa using hbytes) (by rw [alloc_size]; omega) ?_
  intro v' w' h1 h2 _ _
  exact h v' w' h1 (((below_alloc w _).mono hbase).trans h2)
/-- .. with the blocks that the elements may lie in. -/
theorem wpList_append_oneG {w : World} {ops : Array Oper} {rest : List Oper} {o : Oper} {a : Act} {Q : Exit → Act → World → Prop} (hgd : o.guard = none) (s x : Operand) (t : TypeId)
    (ho : o.op = .call { callee := .builtin .append, args := #[s, x], argTypes := #[t, t] }) (ok : Ok R) (T : SlTy P t e bytes) {u : Value} {e' : TypeId} (base : Nat) (G : Fp) (v : Value) (xs : List α) (y : α) (n : Nat) (hn : w.heap.size = n)
    (hs : a.eval s = v) (hx : a.eval x = .slice (some ⟨n, 0, none⟩) 1 1) (hown : Bld R e w base G v xs) (hu : R w (fun k => some k ≠ v.ownBlock ∧ G k) u y) (hG : ∀ k, base ≤ k → G k)
    (hbytes : (xs.length + 1) * bytes ≤ 140737488355328) (hbase : base ≤ w.heap.size)
    (h : ∀ v' w', Bld R e w' base G v' (xs ++ [y]) → Below base w w' → wpList P ops Q rest (a.put o.dst v') w') : wpList P ops Q (o :: rest) a (w.alloc (.cells #[u] e')) := by
  subst hn
  refine wpList_append_bld (w.alloc (.cells #[u] e')) hgd s x t ho ok T base G v _ xs [y] hs hx (hown.alloc ok _) (src_one ok hown (hG _ hbase) hu e' rfl) (by simpa using hbytes) (by rw [alloc_size]; omega) ?_
  intro v' w' h1 h2 _ _
  exact h v' w' h1 (((below_alloc w _).mono hbase).trans h2)
/-- .. where the elements lie apart, and x is newer than they. -/
theorem wpList_append_apart {w0 w : World} {ops : Array Oper} {rest : List Oper} {o : Oper} {a : Act} {Q : Exit → Act → World → Prop} (hgd : o.guard = none) (s x : Operand) (t : TypeId)
    (ho : o.op = .call { callee := .builtin .append, args := #[s, x], argTypes := #[t, t] }) (ok : Ok R) (T : SlTy P t e bytes) {u : Value} {e' : TypeId} (base : Nat) (v : Value) (xs : List α) (y : α) (n : Nat) (hn : w.heap.size = n)
    (hs : a.eval s = v) (hx : a.eval x = .slice (some ⟨n, 0, none⟩) 1 1) (hown : OwnL R e w0 (fun k => base ≤ k) v xs) (hg : Below w0.heap.size w0 w) (hu : R w (fun k => w0.heap.size ≤ k) u y)
    (hbytes : (xs.length + 1) * bytes ≤ 140737488355328) (hbase : base ≤ w0.heap.size)
    (h : ∀ v' w', OwnL R e w' (fun k => base ≤ k) v' (xs ++ [y]) → Below base w w' → wpList P ops Q rest (a.put o.dst v') w') : wpList P ops Q (o :: rest) a (w.alloc (.cells #[u] e')) := by
  subst hn
  have hsz := hg.size
  obtain ⟨fs, h1, h2, h3⟩ := (okO ok).lt hown
  have h4 := (okV (okG ok)).grow h3 hg
  have hb : Bld (G1 R) e w base (fun k => base ≤ k) v (xs.zip fs) := (h4.bld fun k hk => hk.1).mono (okG ok) fun k _ hk => hk.1
  have hold := h3.1.blk
  have hsrc := src_one (okG ok) (R' := G1 R) hb (G := fun k => base ≤ k) (by omega) (x := (y, fun k => w0.heap.size ≤ k ∧ k < w.heap.size)) (u := u)
    ⟨ok.lt hu, fun k hk => ⟨⟨fun ek => by have := (hold k ek.symm).2; omega, by omega⟩, hk.2⟩⟩ e' rfl
  have hlz : (xs.zip fs).length = xs.length := by simp [h1]
  refine wpList_append_bld (w.alloc (.cells #[u] e')) hgd s x t ho (okG ok) T base (fun k => base ≤ k) v _ (xs.zip fs) [(y, fun k => w0.heap.size ≤ k ∧ k < w.heap.size)] hs hx (hb.alloc (okG ok) _) hsrc (by rw [hlz]; simpa using hbytes) (by rw [alloc_size]; omega) ?_
  intro v' w' g1 g2 _ _
  refine h v' w' ⟨fs ++ [fun k => w0.heap.size ≤ k ∧ k < w.heap.size], by simp [h1], h2.snoc fun g hgm k hk => ?_, OwnV.of (by rw [List.zip_append h1.symm]; exact g1) (okG ok) (fun k hk => hk) (fun k hk => hk)⟩ (((below_alloc w _).mono (by omega)).trans g2)
  obtain ⟨j, hj, rfl⟩ := List.getElem_of_mem hgm
  obtain ⟨us, r1, r2, r3⟩ := h3.1
  have hju : j < us.length := by simp at r2; omega
  have := (r3 j us[j] (xs[j]'(by omega), fs[j]) (List.getElem?_eq_getElem hju) (by rw [List.getElem?_eq_getElem (by simp; omega)]; simp)).2 k hk
  have hlt := this.1.2.2
  omega
end
end Go.Proofs.YtdcmbdghnkgghaaDoor.M

namespace Go.Proofs.YtdcmbdghnkgghaaDoor.M
set_option linter.unusedVariables false
open Go Go.RowKit
/-- Two slices that grow side by side. -/
def Pair2 {α : Type} (R : Rel α) (e : TypeId) (w : World) (base : Nat) (G : Fp) (u : Value) (xs : List α) (v : Value) (ys : List α) : Prop :=
  Bld R e w base (fun k => some k ≠ v.ownBlock ∧ G k) u xs ∧ Bld R e w base (fun k => some k ≠ u.ownBlock ∧ G k) v ys ∧ (∀ k, u.ownBlock = some k → v.ownBlock ≠ some k)
theorem Pair2.nil_ {α : Type} (R : Rel α) (e : TypeId) (w : World) (base : Nat) (G : Fp) : Pair2 R e w base G (.slice none 0 0) [] (.slice none 0 0) [] :=
  ⟨Bld.nil_ _ _ _ _ _, Bld.nil_ _ _ _ _ _, fun k hk => by simp [Value.ownBlock] at hk⟩
theorem Pair2.symm {α : Type} {R : Rel α} {e : TypeId} {w : World} {base : Nat} {G : Fp} {u v : Value} {xs ys : List α} (h : Pair2 R e w base G u xs v ys) : Pair2 R e w base G v ys u xs :=
  ⟨h.2.1, h.1, fun k hk hu => h.2.2 k hu hk⟩
theorem Pair2.grow {α : Type} {R : Rel α} (o : Ok R) {e : TypeId} {w w' : World} {base : Nat} {G : Fp} {u v : Value} {xs ys : List α} (h : Pair2 R e w base G u xs v ys) (hb : Below w.heap.size w w') : Pair2 R e w' base G u xs v ys :=
  ⟨h.1.grow o hb, h.2.1.grow o hb, h.2.2⟩
section
variable {P : Program} {α : Type} {R : Rel α} {e : TypeId} {bytes : Nat}
theorem wpList_append_pair {w : World} {ops : Array Oper} {rest : List Oper} {o : Oper} {a : Act} {Q : Exit → Act → World → Prop} (hgd : o.guard = none) (s x : Operand) (t : TypeId)
    (ho : o.op = .call { callee := .builtin .append, args := #[s, x], argTypes := #[t, t] }) (ok : Ok R) (T : SlTy P t e bytes) {z : Value} {e' : TypeId} (base : Nat) (G : Fp) (u v : Value) (xs ys : List α) (y : α) (n : Nat) (hn : w.heap.size = n)
    (hs : a.eval s = u) (hx : a.eval x = .slice (some ⟨n, 0, none⟩) 1 1) (hp : Pair2 R e w base G u xs v ys) (hz : R w (fun k => some k ≠ u.ownBlock ∧ some k ≠ v.ownBlock ∧ G k) z y) (hG : ∀ k, base ≤ k → G k)
    (hbytes : (xs.length + 1) * bytes ≤ 140737488355328) (hbase : base ≤ w.heap.size)
    (h : ∀ u' w', Pair2 R e w' base G u' (xs ++ [y]) v ys → Below base w w' → R w' (fun k => some k ≠ u'.ownBlock ∧ some k ≠ v.ownBlock ∧ G k) z y → wpList P ops Q rest (a.put o.dst u') w') : wpList P ops Q (o :: rest) a (w.alloc (.cells #[z] e')) := by
  subst hn
  obtain ⟨h1, h2, h3⟩ := hp
  have hz' := ok.lt hz
  have hsrc := src_one ok (R' := R) h1 (G := fun k => some k ≠ v.ownBlock ∧ G k) ⟨fun ek => by have := (h2.blk _ ek.symm).2; omega, hG _ hbase⟩ (u := z) (x := y) hz e' rfl
  refine wpList_append_bld (w.alloc (.cells #[z] e')) hgd s x t ho ok T base (fun k => some k ≠ v.ownBlock ∧ G k) u _ xs [y] hs hx (h1.alloc ok _) hsrc (by simpa using hbytes) (by rw [alloc_size]; omega) ?_
  intro u' w' g1 g2 g3 g4
  have hal := below_alloc w (.cells #[z] e')
  have hsz := alloc_size w (.cells #[z] e')
  have hub := h1.blk
  have hvb := h2.blk
  have hnew : ∀ k, k < w.heap.size → some k ≠ u.ownBlock → some k ≠ u'.ownBlock := fun k hk hne e => by
    rcases g4 with e4 | e4
    · exact hne (e.trans e4)
    · rw [e4] at e
      injection e with e
      omega
  refine h u' w' ⟨g1, ?_, ?_⟩ ((hal.mono hbase).trans g2) ?_
  · have k2 := ((h2.lt ok).alloc ok (.cells #[z] e')).keep ok (w' := w') g3 (by
      cases hv : v.ownBlock with
      | none => exact .inl rfl
      | some k => right; intro e; exact h3 k e.symm hv) fun k hk hG => hG.1.1
    exact k2.mono ok fun k hk hG => ⟨hnew k hG.2 hG.1.1, hG.1.2⟩
  · intro k hk hv
    rcases g4 with e4 | e4
    · exact h3 k (e4 ▸ hk) hv
    · have := (hvb k hv).2
      rw [hk] at e4
      injection e4 with e4
      omega
  · have k1 := ok.grow hz' hal
    refine ok.mono (ok.keep k1 fun k hk hl => g3.block k hl hk.1.1) fun k hk => ⟨hnew k hk.2 hk.1.1, hk.1.2⟩
end
/-- A list of intents, two cells each. -/
def RdIs : Rel (List (Int × List Bs)) := fun w F v is => ∃ A c, v = .slice A is.length c ∧ is.length ≤ c ∧ c ≤ maxLen ∧
  (0 < is.length → ∃ b off, A = some ⟨b, off, none⟩ ∧ F b ∧ ∀ (j : Nat) (i : Int × List Bs), is[j]? = some i → w.cell? ⟨b, off + j * 2, none⟩ = some (.int .i64 i.1) ∧ ∃ u, w.cell? ⟨b, off + j * 2 + 1, none⟩ = some u ∧ RdBB w F u i.2)
theorem okIs : Ok RdIs where
  mono := fun {w F F' u x} ⟨A, c, h1, h2, h3, h4⟩ hm => ⟨A, c, h1, h2, h3, fun hn => by
    obtain ⟨b, off, e1, e2, e3⟩ := h4 hn
    refine ⟨b, off, e1, hm b e2, fun j i hi => ?_⟩
    obtain ⟨g1, y, g2, g3⟩ := e3 j i hi
    exact ⟨g1, y, g2, okBB.mono g3 hm⟩⟩
  keep := fun {w w' F u x} ⟨A, c, h1, h2, h3, h4⟩ hk => ⟨A, c, h1, h2, h3, fun hn => by
    obtain ⟨b, off, e1, e2, e3⟩ := h4 hn
    refine ⟨b, off, e1, e2, fun j i hi => ?_⟩
    obtain ⟨g1, y, g2, g3⟩ := e3 j i hi
    have hb := hk b e2 (World.block_lt_of_cell? w ⟨b, off + j * 2, none⟩ g1)
    refine ⟨?_, y, ?_, okBB.keep g3 hk⟩
    · rw [World.cell?_of_block (w := w) (a := ⟨b, off + j * 2, none⟩) hb]; exact g1
    · rw [World.cell?_of_block (w := w) (a := ⟨b, off + j * 2 + 1, none⟩) hb]; exact g2⟩
  lt := fun {w F u x} ⟨A, c, h1, h2, h3, h4⟩ => ⟨A, c, h1, h2, h3, fun hn => by
    obtain ⟨b, off, e1, e2, e3⟩ := h4 hn
    have h0 : x[0]? = some (x[0]'hn) := List.getElem?_eq_getElem hn
    refine ⟨b, off, e1, ⟨e2, World.block_lt_of_cell? w ⟨b, off + 0 * 2, none⟩ (e3 0 _ h0).1⟩, fun j i hi => ?_⟩
    obtain ⟨g1, y, g2, g3⟩ := e3 j i hi
    exact ⟨g1, y, g2, okBB.lt g3⟩⟩
  one := fun ⟨A, c, h1, _⟩ => by rw [h1]; rfl
theorem RdIs.nil_ (w : World) (F : Fp) (A : Option Addr) (c : Nat) (hc : c ≤ maxLen) : RdIs w F (.slice A 0 c) [] := ⟨A, c, rfl, Nat.zero_le _, hc, fun h => by simp at h⟩
theorem RdIs.shape {w : World} {F : Fp} {v : Value} {is : List (Int × List Bs)} (h : RdIs w F v is) : ∃ A c, v = .slice A is.length c ∧ is.length ≤ c ∧ c ≤ maxLen := by
  obtain ⟨A, c, h1, h2, h3, _⟩ := h
  exact ⟨A, c, h1, h2, h3⟩
theorem RdIs.q {w : World} {F : Fp} {v : Value} {is : List (Int × List Bs)} (h : RdIs w F v is) {j : Nat} {i : Int × List Bs} (hi : is[j]? = some i) :
    ∃ b off c u, v = .slice (some ⟨b, off, none⟩) is.length c ∧ is.length ≤ c ∧ c ≤ maxLen ∧ w.cell? ⟨b, off + j * 2, none⟩ = some (.int .i64 i.1) ∧ w.cell? ⟨b, off + j * 2 + 1, none⟩ = some u ∧ RdBB w F u i.2 := by
  obtain ⟨A, c, h1, h2, h3, h4⟩ := h
  obtain ⟨b, off, e1, _, e3⟩ := h4 (by have := (List.getElem?_eq_some_iff.1 hi).1; omega)
  obtain ⟨g1, u, g2, g3⟩ := e3 j i hi
  exact ⟨b, off, c, u, by rw [h1, e1], h2, h3, g1, g2, g3⟩
/-- A new list of one intent. -/
theorem RdIs.one_ {w : World} {F : Fp} {u : Value} {s : Int} {l : List Bs} (h : RdBB w F u l) (e : TypeId) (hF : F w.heap.size) : RdIs (w.alloc (.cells #[.int .i64 s, u] e)) F (.slice (some ⟨w.heap.size, 0, none⟩) 1 1) [(s, l)] := by
  refine ⟨_, 1, rfl, by simp, by simp [maxLen], fun _ => ⟨_, 0, rfl, hF, fun j i hi => ?_⟩⟩
  match j with
  | 0 =>
    simp at hi
    subst hi
    exact ⟨cell_of_row _ _ _ _ _ _ (heap_alloc_new w _), u, cell_of_row _ _ _ _ _ _ (heap_alloc_new w _), okBB.grow h (below_alloc _ _)⟩
  | j + 1 => simp at hi
/-- An array. -/
def RdA : Rel Arr := fun w F v a => ∃ dv iv, v = .agg #[dv, iv] ∧ RdBBB w F dv a.disks ∧ RdIs w F iv a.ints
theorem RdA.mono {w : World} {F F' : Fp} {v : Value} {a : Arr} (h : RdA w F v a) (hm : ∀ k, F k → F' k) : RdA w F' v a := by
  obtain ⟨dv, iv, rfl, h1, h2⟩ := h
  exact ⟨dv, iv, rfl, okBBB.mono h1 hm, okIs.mono h2 hm⟩
theorem RdA.grow {w w' : World} {F : Fp} {v : Value} {a : Arr} (h : RdA w F v a) (hb : Below w.heap.size w w') : RdA w' F v a := by
  obtain ⟨dv, iv, rfl, h1, h2⟩ := h
  exact ⟨dv, iv, rfl, okBBB.grow h1 hb, okIs.grow h2 hb⟩
theorem RdA.lt {w : World} {F : Fp} {v : Value} {a : Arr} (h : RdA w F v a) : RdA w (fun k => F k ∧ k < w.heap.size) v a := by
  obtain ⟨dv, iv, rfl, h1, h2⟩ := h
  exact ⟨dv, iv, rfl, okBBB.lt h1, okIs.lt h2⟩
/-- Its disks, its cells, in memory. -/
theorem disks_form {w : World} {F : Fp} {v : Value} {D : List (List Bs)} (h : RdBBB w F v D) (hs : Shape D) : ∃ b off c, v = .slice (some ⟨b, off, none⟩) 4 c ∧ F b ∧ b < w.heap.size ∧ 4 ≤ c ∧ c ≤ maxLen := by
  obtain ⟨b, off, c, hv, h1, h2, h3, h4⟩ := h.form (by rw [hs.1]; decide)
  rw [hs.1] at hv h3
  exact ⟨b, off, c, hv, h1, h2, h3, h4⟩
theorem disks_row {w : World} {F : Fp} {b off n c : Nat} {D : List (List Bs)} (h : RdBBB w F (.slice (some ⟨b, off, none⟩) n c) D) (hs : Shape D) {d : Nat} (hd : d < 4) :
    ∃ b1 o1 c1, w.cell? ⟨b, off + d, none⟩ = some (.slice (some ⟨b1, o1, none⟩) 3 c1) ∧ RdBB w F (.slice (some ⟨b1, o1, none⟩) 3 c1) (D.getD d []) ∧ 3 ≤ c1 ∧ c1 ≤ maxLen := by
  obtain ⟨r, h1, h2, _, h4⟩ := hs.row hd
  obtain ⟨u, hu, hR⟩ := RdL_q h h1
  obtain ⟨b1, o1, c1, rfl, _, _, h5, h6⟩ := hR.form (by rw [h2]; decide)
  rw [h2] at hu hR h5
  exact ⟨b1, o1, c1, hu, by rw [h4]; exact hR, h5, h6⟩
theorem disks_cell {w : World} {F : Fp} {b off n c : Nat} {D : List (List Bs)} (h : RdBBB w F (.slice (some ⟨b, off, none⟩) n c) D) (hs : Shape D) {d s : Nat} (hd : d < 4) (hs3 : s < 3) :
    ∃ b1 o1 c1 A c2, w.cell? ⟨b, off + d, none⟩ = some (.slice (some ⟨b1, o1, none⟩) 3 c1) ∧ 3 ≤ c1 ∧ c1 ≤ maxLen ∧ w.cell? ⟨b1, o1 + s, none⟩ = some (.slice A (cellAt D d s).length c2) ∧ RdB w F (.slice A (cellAt D d s).length c2) (cellAt D d s) := by
  obtain ⟨b1, o1, c1, h1, h2, h3, h4⟩ := disks_row h hs hd
  obtain ⟨r, _, hr2, hr3, _⟩ := hs.cell hd hs3
  have hc : (D.getD d [])[s]? = some (cellAt D d s) := by
    obtain ⟨r', e1, _, _, e4⟩ := hs.row hd
    rw [e4]
    have : r' = r := by
      have := ‹D[d]? = some r›
      rw [e1] at this
      injection this
    rw [this]
    exact hr3
  obtain ⟨u, hu, hR⟩ := RdL_q h2 hc
  obtain ⟨A, c2, rfl, _, _⟩ := hR.shape
  exact ⟨b1, o1, c1, A, c2, h1, h3, h4, hu, hR⟩
end Go.Proofs.YtdcmbdghnkgghaaDoor.M

namespace Go.Proofs.YtdcmbdghnkgghaaDoor.M
set_option linter.unusedVariables false
open Go Go.RowKit

def putL : List Oper → Nat → (Nat → Value) → Act → Act
  | [], _, _, a => a
  | o :: os, i, y, a => putL os (i + 1) y (a.put o.dst (y i))

theorem put_put (a : Act) (d : Option Tmp) (u v : Value) : (a.put d u).put d v = a.put d v := by
  cases d with
  | none => rfl
  | some d =>
    simp only [Act.put]
    congr 1
    apply Array.ext
    · simp
    · intro i h1 h2
      by_cases h : d = i
      · subst h; simp
      · simp
theorem put_same (a : Act) (d : Option Tmp) : a.put d ((d.map fun d => a.tmps.getD d undef).getD undef) = a := by
  cases d with
  | none => rfl
  | some d =>
    simp only [Act.put, Option.map_some, Option.getD_some]
    have : a.tmps.setIfInBounds d (a.tmps.getD d undef) = a.tmps := by
      apply Array.ext
      · simp
      · intro i h1 h2
        by_cases h : d = i
        · subst h
          have h' : d < a.tmps.size := h2
          simp [h']
        · rw [Array.getElem_setIfInBounds_ne h2 h]
    rw [this]
theorem put_swap (a : Act) {d e : Option Tmp} (u v : Value) (h : ∀ t, d = some t → e ≠ some t) : (a.put d u).put e v = (a.put e v).put d u := by
  cases d with
  | none => rfl
  | some d =>
    cases e with
    | none => rfl
    | some e =>
      have hne : d ≠ e := fun hh => h d rfl (by rw [hh])
      simp only [Act.put]
      congr 1
      exact Array.setIfInBounds_comm _ _ hne
theorem putL_swap {d : Option Tmp} {v : Value} {y : Nat → Value} : ∀ (os : List Oper) (k : Nat) (a : Act), (∀ t, d = some t → t ∉ os.filterMap (·.dst)) → (putL os k y a).put d v = putL os k y (a.put d v)
  | [], _, _, _ => rfl
  | o :: os, k, a, h => by
    unfold putL
    rw [putL_swap os (k + 1) _ (fun t ht hm => h t ht (by
      rw [List.filterMap_cons]
      split
      · exact hm
      · exact List.mem_cons_of_mem _ hm))]
    congr 1
    refine put_swap a _ _ fun t ht hd => h t hd ?_
    simp [ht]
theorem putL_congr {y z : Nat → Value} : ∀ (os : List Oper) (k : Nat) (a : Act), (∀ j, k ≤ j → y j = z j) → putL os k y a = putL os k z a
  | [], _, _, _ => rfl
  | o :: os, k, a, h => by
    unfold putL
    rw [h k (Nat.le_refl k)]
    exact putL_congr os (k + 1) _ fun j hj => h j (by omega)
def upd (y : Nat → Value) (i : Nat) (v : Value) (j : Nat) : Value := if j = i then v else y j
theorem putL_put {y : Nat → Value} {v : Value} : ∀ (os : List Oper) (k i : Nat) (a : Act) (o : Oper), (os.filterMap (·.dst)).Nodup → k ≤ i → os[i - k]? = some o → (putL os k y a).put o.dst v = putL os k (upd y i v) a
  | [], _, _, _, _, _, _, h => by simp at h
  | o' :: os, k, i, a, o, hn, hk, h => by
    unfold putL
    have hn' : (os.filterMap (·.dst)).Nodup := by
      rw [List.filterMap_cons] at hn
      split at hn
      · exact hn
      · exact (List.nodup_cons.1 hn).2
    by_cases hi : i = k
    · subst hi
      simp at h
      subst h
      have e1 : upd y i v i = v := by simp [upd]
      rw [e1, putL_congr (y := upd y i v) (z := y) os (i + 1) _ (fun j hj => by simp [upd]; omega)]
      rw [putL_swap os (i + 1) _ (fun t ht hm => by
        rw [List.filterMap_cons, ht] at hn
        exact (List.nodup_cons.1 hn).1 hm), put_put]
    · have e1 : upd y i v k = y k := by simp [upd]; omega
      rw [e1]
      refine putL_put os (k + 1) i _ o hn' (by omega) ?_
      have : i - k = (i - (k + 1)) + 1 := by omega
      rw [this] at h
      simpa using h
theorem putL_start (a : Act) : ∀ (os : List Oper) (k : Nat), putL os k (fun i => ((os[i - k]?).bind fun o => o.dst.map fun d => a.tmps.getD d undef).getD undef) a = a
  | [], _ => rfl
  | o :: os, k => by
    unfold putL
    have e : ((((o :: os)[k - k]?).bind fun o => o.dst.map fun d => a.tmps.getD d undef).getD undef) = (o.dst.map fun d => a.tmps.getD d undef).getD undef := by simp
    simp only []
    rw [e, put_same]
    refine (putL_congr os (k + 1) a fun j hj => ?_).trans (putL_start a os (k + 1))
    have : j - k = (j - (k + 1)) + 1 := by omega
    rw [this]
    simp

/-- The operations that one waits for. -/
def depsOf (o : Oper) : List Nat := (o.after.toList.filter fun e => Region.binds .any e).map (·.on)

section
variable (P : Program) (Q : Exit → Act → World → Prop) (ops : Array Oper) (a0 : Act) (w0 : World) (V : Nat → World → Value → Prop)
def StepAt (i : Nat) (o : Oper) : Prop :=
  ∀ (y : Nat → Value) (w : World), Below w0.heap.size w0 w → (∀ j, j ∈ depsOf o → V j w (y j)) →
    ∀ K : Act → World → Prop, (∀ v w', Below w.heap.size w w' → V i w' v → K ((putL ops.toList 0 y a0).put o.dst v) w') →
      if Region.wanted o (yielded ops (putL ops.toList 0 y a0).tmps) = true then Oper.wp P o (putL ops.toList 0 y a0) w K Q else K ((putL ops.toList 0 y a0).put o.dst undef) w
def StepsL : List Oper → Nat → Prop
  | [], _ => True
  | o :: os, i => StepAt P Q ops a0 w0 V i o ∧ StepsL os (i + 1)
end

theorem StepsL.at_ {P : Program} {Q : Exit → Act → World → Prop} {ops : Array Oper} {a0 : Act} {w0 : World} {V : Nat → World → Value → Prop} :
    ∀ (os : List Oper) (k : Nat), StepsL P Q ops a0 w0 V os k → ∀ i o, k ≤ i → os[i - k]? = some o → StepAt P Q ops a0 w0 V i o
  | [], _, _, _, _, _, h => by simp at h
  | o' :: os, k, hs, i, o, hk, h => by
    by_cases hi : i = k
    · subst hi
      simp at h
      subst h
      exact hs.1
    · refine StepsL.at_ os (k + 1) hs.2 i o (by omega) ?_
      have : i - k = (i - (k + 1)) + 1 := by omega
      rw [this] at h
      simpa using h

def backOk (ops : Array Oper) : Bool := (List.range ops.size).all fun i => ((ops[i]?).map fun o => (depsOf o).all fun j => decide (j < i)).getD true
theorem backOk_spec {ops : Array Oper} (h : backOk ops = true) {i : Nat} {o : Oper} (ho : ops[i]? = some o) : ∀ j ∈ depsOf o, j < i := by
  intro j hj
  unfold backOk at h
  rw [List.all_eq_true] at h
  have := h i (by simp; exact (Array.getElem?_eq_some_iff.1 ho).1)
  rw [ho] at this
  simp at this
  exact this j hj
theorem mem_depsOf {o : Oper} {e : Edge} (he : e ∈ o.after) (hb : Region.binds .any e = true) : e.on ∈ depsOf o := by
  unfold depsOf
  rw [List.mem_map]
  exact ⟨e, List.mem_filter.2 ⟨by simpa using he, hb⟩, rfl⟩
theorem of_mem_depsOf {o : Oper} {j : Nat} (h : j ∈ depsOf o) : ∃ e, e ∈ o.after ∧ Region.binds .any e = true ∧ e.on = j := by
  unfold depsOf at h
  rw [List.mem_map] at h
  obtain ⟨e, he, hj⟩ := h
  rw [List.mem_filter] at he
  exact ⟨e, by simpa using he.1, he.2, hj⟩

theorem getD_lt (l : Array Bool) (i : Nat) (d : Bool) (h : i < l.size) : l.getD i d = l[i] := by simp [h]

/-- Whichever order is drawn. -/
theorem wpAny_steps {P : Program} {Q : Exit → Act → World → Prop} {ops : Array Oper} {a0 : Act} {w0 : World} {V : Nat → World → Value → Prop}
    (hd : (ops.toList.filterMap (·.dst)).Nodup) (hb : backOk ops = true)
    (hmono : ∀ i w w' v, Below w.heap.size w w' → V i w v → V i w' v)
    (steps : ∀ i o, ops[i]? = some o → StepAt P Q ops a0 w0 V i o)
    (fin : ∀ y w, Below w0.heap.size w0 w → (∀ i, i < ops.size → V i w (y i)) → Q .normal (putL ops.toList 0 y a0) w) :
    ∀ (fuel : Nat) (listed : Array Bool) (y : Nat → Value) (w : World), listed.size = ops.size → listed.toList.count false = fuel → Below w0.heap.size w0 w →
      (∀ i, i < ops.size → listed.getD i false = true → V i w (y i)) → wpAny P .any ops Q fuel listed (putL ops.toList 0 y a0) w := by
  have all : ∀ (listed : Array Bool), listed.size = ops.size → Region.ready .any ops listed = [] → ∀ i, i < ops.size → listed.getD i false = true := by
    intro listed hs hr i
    induction i using Nat.strongRecOn with
    | ind i ih =>
      intro hi
      have ho : ops[i]? = some ops[i] := Array.getElem?_eq_getElem hi
      rcases hl : listed.getD i false with _ | _
      · exfalso
        have : i ∈ Region.ready .any ops listed := by
          rw [mem_ready]
          refine ⟨by rw [getD_lt _ _ _ (by omega)] at hl ⊢; exact hl, ops[i], ho, fun e he hbd => ?_⟩
          have hlt := backOk_spec hb ho e.on (mem_depsOf he hbd)
          exact ih e.on hlt (by omega)
        rw [hr] at this
        cases this
      · rfl
  intro fuel
  induction fuel with
  | zero =>
    intro listed y w hs hc hw hV
    have hl : ∀ i, i < ops.size → listed.getD i false = true := by
      intro i hi
      rw [getD_lt _ _ _ (by omega)]
      rcases h : listed[i]'(by omega) with _ | _
      · exfalso
        have hm : false ∈ listed.toList := by rw [← h]; exact Array.mem_def.1 (Array.getElem_mem _)
        have := List.count_pos_iff.2 hm
        omega
      · rfl
    refine ⟨?_, fin y w hw fun i hi => hV i hi (hl i hi)⟩
    apply List.eq_nil_iff_forall_not_mem.2
    intro j hj
    rw [mem_ready] at hj
    obtain ⟨h0, o, ho, _⟩ := hj
    have hj' : j < ops.size := (Array.getElem?_eq_some_iff.1 ho).1
    have := hl j hj'
    rw [getD_lt _ _ _ (by omega)] at this h0
    rw [this] at h0
    cases h0
  | succ fuel ih =>
    intro listed y w hs hc hw hV
    refine ⟨fun hr => fin y w hw fun i hi => hV i hi (all listed hs hr i hi), fun i hi => ?_⟩
    rw [mem_ready] at hi
    obtain ⟨h0, o, ho, hdeps⟩ := hi
    have hlt : i < ops.size := (Array.getElem?_eq_some_iff.1 ho).1
    have h0' : listed[i]'(by omega) = false := by rw [getD_lt _ _ _ (by omega)] at h0; exact h0
    have st := steps i o ho y w hw (fun j hj => by
      obtain ⟨e, he, hbd, rfl⟩ := of_mem_depsOf hj
      have hl := hdeps e he hbd
      exact hV e.on (Nat.lt_trans (backOk_spec hb ho e.on hj) hlt) hl)
      (wpAny P .any ops Q fuel (listed.setIfInBounds i true)) (fun v w' hb' hv => by
        rw [putL_put ops.toList 0 i a0 o hd (Nat.zero_le _) (by simpa using ho)]
        refine ih _ _ _ (by simpa using hs) ?_ (hw.trans (hb'.mono hw.size)) fun j hj hl => ?_
        · rw [Array.toList_setIfInBounds, List.count_set (by simpa using by omega)]
          simp [h0', hc]
        · by_cases hji : j = i
          · subst hji
            simpa [upd] using hv
          · have e1 : upd y i v j = y j := by simp [upd, hji]
            rw [e1]
            refine hmono j w w' _ hb' (hV j hj ?_)
            rwa [getD_set_ne false (Ne.symm hji)] at hl)
    unfold wpOp
    simp only [ho]
    split at st
    · rename_i hwn
      rw [if_pos hwn]
      exact .inl st
    · rename_i hwn
      rw [if_neg hwn]
      exact st

/-- THE LAW FOR A REGION THAT DRAWS. -/
theorem wp_region_all {P : Program} {Q : Exit → Act → World → Prop} {id : Nat} {ops : Array Oper} {a0 : Act} {w0 : World} (V : Nat → World → Value → Prop)
    (hm : P.follows .mixedOrders = true) (hd : decide (ops.toList.filterMap (·.dst)).Nodup = true) (hb : backOk ops = true)
    (hmono : ∀ i w w' v, Below w.heap.size w w' → V i w v → V i w' v)
    (steps : StepsL P Q ops a0 w0 V ops.toList 0)
    (fin : ∀ y w, Below w0.heap.size w0 w → (∀ i, i < ops.size → V i w (y i)) → Q .normal (putL ops.toList 0 y a0) w) : (Code.region id ops true).wp P Q a0 w0 := by
  refine wp_region_any hm ?_
  have h := wpAny_steps (P := P) (Q := Q) (ops := ops) (a0 := a0) (w0 := w0) (V := V) (of_decide_eq_true hd) hb hmono (fun i o ho => steps.at_ ops.toList 0 i o (Nat.zero_le _) (by simpa using ho))
    fin ops.size (Array.replicate ops.size false)
    (fun i => ((ops.toList[i - 0]?).bind fun o => o.dst.map fun d => a0.tmps.getD d undef).getD undef) w0.drew (by simp) (by simp) ((Below.refl _ _).drew) (fun i hi hl => by rw [getD_lt _ _ _ (by simpa using hi)] at hl; simp at hl)
  rw [putL_start a0 ops.toList 0] at h
  exact h

/-! ### what is known of each operation's value, as a list -/
abbrev Know := World → Value → Prop
def Mono (V : Know) : Prop := ∀ w w' v, Below w.heap.size w w' → V w v → V w' v
/-- It is c. -/
def Cv (c : Value) : Know := fun _ v => v = c
/-- Nothing is known. -/
def Tv : Know := fun _ _ => True
theorem mC (c : Value) : Mono (Cv c) := fun _ _ _ _ h => h
theorem mT : Mono Tv := fun _ _ _ _ h => h
/-- It reads as x. -/
def Rv {α : Type} (R : Rel α) (x : α) : Know := fun w v => R w (fun k => k < w.heap.size) v x
theorem mR {α : Type} {R : Rel α} (o : Ok R) (x : α) : Mono (Rv R x) := fun _ _ _ hb h => o.old h hb fun _ hk _ => Nat.lt_of_lt_of_le hk hb.size
def MonoL : List Know → Prop
  | [] => True
  | V :: vs => Mono V ∧ MonoL vs
theorem MonoL.at_ : ∀ (vs : List Know), MonoL vs → ∀ i, Mono (vs.getD i Tv)
  | [], _, i => by simpa using mT
  | V :: vs, h, 0 => h.1
  | V :: vs, h, i + 1 => by simpa using MonoL.at_ vs h.2 i

theorem region_list {P : Program} {Q : Exit → Act → World → Prop} {id : Nat} {ops : Array Oper} {a0 : Act} {w0 : World} (vs : List Know)
    (hm : P.follows .mixedOrders = true) (hd : decide (ops.toList.filterMap (·.dst)).Nodup = true) (hb : backOk ops = true)
    (hmono : MonoL vs)
    (steps : StepsL P Q ops a0 w0 (fun i => vs.getD i Tv) ops.toList 0)
    (fin : ∀ y w, Below w0.heap.size w0 w → (∀ i, i < ops.size → vs.getD i Tv w (y i)) → Q .normal (putL ops.toList 0 y a0) w) : (Code.region id ops true).wp P Q a0 w0 :=
  wp_region_all (fun i => vs.getD i Tv) hm hd hb (fun i w w' v hb hv => MonoL.at_ vs hmono i w w' v hb hv) steps fin
theorem _root_.Go.RowKit.Below.drewN_ (B : Nat) (w : World) (n : Nat) : Below B w (w.drewN n) := ⟨rfl, rfl, rfl, Nat.le_refl _, fun _ _ => rfl⟩
end Go.Proofs.YtdcmbdghnkgghaaDoor.M

namespace Go.Proofs.YtdcmbdghnkgghaaDoor.M
set_option linter.unusedVariables false
open Go Go.RowKit

section
variable (P : Program) (Q : Exit → Act → World → Prop) (ops : Array Oper) (a0 : Act) (w0 : World) (B : Nat) (V : Nat → Nat → World → Value → Prop) (S : Nat → World → Prop) (st : List Nat)
/-- The stages at which the operation may be run. -/
def mayBe (i : Nat) (n : Nat) : Bool :=
  (List.range st.length).all fun s => !((st[s]?).map (fun k => (((ops[i]?).map fun o => (depsOf o).contains k).getD false)) == some true && decide (n ≤ s)) &&
    !((st[s]?).map (fun k => (((ops[k]?).map fun o => (depsOf o).contains i).getD false)) == some true && decide (s < n))
def StepAt2 (i : Nat) (o : Oper) : Prop :=
  ∀ (n : Nat) (y : Nat → Value) (w : World), n ≤ st.length → mayBe ops st i n = true → (∀ s, st[s]? = some i → s = n) → Below B w0 w → S n w → (∀ j, j ∈ depsOf o → V j n w (y j)) →
    ∀ K : Act → World → Prop,
      (∀ v w' m, Below B w w' → (if st.contains i then m = n + 1 else m = n) → S m w' → V i m w' v → (∀ j, j ≠ i → ∀ u, V j n w u → V j m w' u) → K ((putL ops.toList 0 y a0).put o.dst v) w') →
      if Region.wanted o (yielded ops (putL ops.toList 0 y a0).tmps) = true then Oper.wp P o (putL ops.toList 0 y a0) w K Q else K ((putL ops.toList 0 y a0).put o.dst undef) w
def StepsL2 : List Oper → Nat → Prop
  | [], _ => True
  | o :: os, i => StepAt2 P Q ops a0 w0 B V S st i o ∧ StepsL2 os (i + 1)
end

theorem StepsL2.at_ {P : Program} {Q : Exit → Act → World → Prop} {ops : Array Oper} {a0 : Act} {w0 : World} {B : Nat} {V : Nat → Nat → World → Value → Prop} {S : Nat → World → Prop} {st : List Nat} :
    ∀ (os : List Oper) (k : Nat), StepsL2 P Q ops a0 w0 B V S st os k → ∀ i o, k ≤ i → os[i - k]? = some o → StepAt2 P Q ops a0 w0 B V S st i o
  | [], _, _, _, _, _, h => by simp at h
  | o' :: os, k, hs, i, o, hk, h => by
    by_cases hi : i = k
    · subst hi
      simp at h
      subst h
      exact hs.1
    · refine StepsL2.at_ os (k + 1) hs.2 i o (by omega) ?_
      have : i - k = (i - (k + 1)) + 1 := by omega
      rw [this] at h
      simpa using h
/-- The stores stand in a line: each waits for the one before. -/
def lineOk (ops : Array Oper) (st : List Nat) : Bool :=
  (List.range st.length).all fun s => decide (s = 0) || ((ops[st.getD s 0]?).map fun o => (depsOf o).contains (st.getD (s - 1) 0)).getD false

theorem lineOk_spec {ops : Array Oper} {st : List Nat} (h : lineOk ops st = true) {s i : Nat} {o : Oper} (hs : st[s + 1]? = some i) (ho : ops[i]? = some o) : ∃ k, st[s]? = some k ∧ k ∈ depsOf o := by
  have hlt := (List.getElem?_eq_some_iff.1 hs).1
  unfold lineOk at h
  rw [List.all_eq_true] at h
  have := h (s + 1) (by simpa using hlt)
  have e1 : st.getD (s + 1) 0 = i := by simp [List.getD, hs]
  rw [e1, ho] at this
  simp at this
  refine ⟨st.getD s 0, ?_, by simpa [List.getD] using this⟩
  simp [List.getD, List.getElem?_eq_getElem (show s < st.length by omega)]

theorem wpAny_steps2 {P : Program} {Q : Exit → Act → World → Prop} {ops : Array Oper} {a0 : Act} {w0 : World} {B : Nat} {V : Nat → Nat → World → Value → Prop} {S : Nat → World → Prop} {st : List Nat}
    (hd : (ops.toList.filterMap (·.dst)).Nodup) (hb : backOk ops = true) (hline : lineOk ops st = true) (hst : ∀ k ∈ st, k < ops.size)
    (steps : ∀ i o, ops[i]? = some o → StepAt2 P Q ops a0 w0 B V S st i o)
    (fin : ∀ y w, Below B w0 w → S st.length w → (∀ i, i < ops.size → V i st.length w (y i)) → Q .normal (putL ops.toList 0 y a0) w) :
    ∀ (fuel : Nat) (listed : Array Bool) (y : Nat → Value) (w : World) (n : Nat), listed.size = ops.size → listed.toList.count false = fuel → Below B w0 w → n ≤ st.length →
      (∀ s k, st[s]? = some k → (listed.getD k false = true ↔ s < n)) → (∀ k o, ops[k]? = some o → listed.getD k false = true → ∀ j ∈ depsOf o, listed.getD j false = true) → S n w →
      (∀ i, i < ops.size → listed.getD i false = true → V i n w (y i)) → wpAny P .any ops Q fuel listed (putL ops.toList 0 y a0) w := by
  have all : ∀ (listed : Array Bool), listed.size = ops.size → Region.ready .any ops listed = [] → ∀ i, i < ops.size → listed.getD i false = true := by
    intro listed hs hr i
    induction i using Nat.strongRecOn with
    | ind i ih =>
      intro hi
      have ho : ops[i]? = some ops[i] := Array.getElem?_eq_getElem hi
      rcases hl : listed.getD i false with _ | _
      · exfalso
        have : i ∈ Region.ready .any ops listed := by
          rw [mem_ready]
          refine ⟨by rw [getD_lt _ _ _ (by omega)] at hl ⊢; exact hl, ops[i], ho, fun e he hbd => ?_⟩
          have hlt := backOk_spec hb ho e.on (mem_depsOf he hbd)
          exact ih e.on hlt (by omega)
        rw [hr] at this
        cases this
      · rfl
  have done : ∀ (listed : Array Bool) (y : Nat → Value) (w : World) (n : Nat), Below B w0 w → n ≤ st.length → (∀ s k, st[s]? = some k → (listed.getD k false = true ↔ s < n)) → S n w → (∀ i, i < ops.size → listed.getD i false = true → V i n w (y i)) →
      (∀ i, i < ops.size → listed.getD i false = true) → Q .normal (putL ops.toList 0 y a0) w := by
    intro listed y w n hw hn hpre hS hV hl
    have : n = st.length := by
      rcases Nat.lt_or_ge n st.length with h | h
      · exfalso
        have h1 := (hpre n st[n] (List.getElem?_eq_getElem h)).1 (hl _ (hst _ (List.getElem_mem h)))
        omega
      · omega
    subst this
    exact fin y w hw hS fun i hi => hV i hi (hl i hi)
  intro fuel
  induction fuel with
  | zero =>
    intro listed y w n hs hc hw hn hpre hcl hS hV
    have hl : ∀ i, i < ops.size → listed.getD i false = true := by
      intro i hi
      rw [getD_lt _ _ _ (by omega)]
      rcases h : listed[i]'(by omega) with _ | _
      · exfalso
        have hm : false ∈ listed.toList := by rw [← h]; exact Array.mem_def.1 (Array.getElem_mem _)
        have := List.count_pos_iff.2 hm
        omega
      · rfl
    refine ⟨?_, done listed y w n hw hn hpre hS hV hl⟩
    apply List.eq_nil_iff_forall_not_mem.2
    intro j hj
    rw [mem_ready] at hj
    obtain ⟨h0, o, ho, _⟩ := hj
    have hj' : j < ops.size := (Array.getElem?_eq_some_iff.1 ho).1
    have := hl j hj'
    rw [getD_lt _ _ _ (by omega)] at this h0
    rw [this] at h0
    cases h0
  | succ fuel ih =>
    intro listed y w n hs hc hw hn hpre hcl hS hV
    refine ⟨fun hr => done listed y w n hw hn hpre hS hV (all listed hs hr), fun i hi => ?_⟩
    rw [mem_ready] at hi
    obtain ⟨h0, o, ho, hdeps⟩ := hi
    have hlt : i < ops.size := (Array.getElem?_eq_some_iff.1 ho).1
    have h0' : listed[i]'(by omega) = false := by rw [getD_lt _ _ _ (by omega)] at h0; exact h0
    have h0f : listed.getD i false = false := by rw [getD_lt _ _ _ (by omega)]; exact h0'
    have hdl : ∀ j ∈ depsOf o, listed.getD j false = true := fun j hj => by
      obtain ⟨e, he, hbd, rfl⟩ := of_mem_depsOf hj
      have hl := hdeps e he hbd
      have hjlt : e.on < ops.size := Nat.lt_trans (backOk_spec hb ho e.on hj) hlt
      rw [getD_lt _ _ _ (by omega)] at hl ⊢
      exact hl
    have hself : ∀ s, st[s]? = some i → s = n := by
      intro s hsi
      have h1 : ¬ s < n := fun h => by
        have := (hpre s i hsi).2 h
        rw [h0f] at this
        cases this
      rcases Nat.eq_zero_or_pos s with hz | hz
      · omega
      · obtain ⟨s', rfl⟩ : ∃ s', s = s' + 1 := ⟨s - 1, by omega⟩
        obtain ⟨k, hk, hkd⟩ := lineOk_spec hline hsi ho
        have := (hpre s' k hk).1 (hdl k hkd)
        omega
    have hmay : mayBe ops st i n = true := by
      unfold mayBe
      rw [List.all_eq_true]
      intro s hsr
      have hsl : s < st.length := by simpa using hsr
      have hsk := List.getElem?_eq_getElem hsl
      rw [hsk]
      simp only [Option.map_some, ho, Option.getD_some, Bool.and_eq_true, Bool.not_eq_true', Bool.and_eq_false_iff, beq_eq_false_iff_ne, decide_eq_false_iff_not]
      refine ⟨?_, ?_⟩
      · by_cases hm : (depsOf o).contains st[s] = true
        · right
          have := (hpre s _ hsk).1 (hdl _ (by simpa using hm))
          omega
        · left
          intro e
          injection e with e
          exact hm e
      · by_cases hm : ((ops[st[s]]?).map fun o => (depsOf o).contains i).getD false = true
        · right
          intro hsn
          have hls := (hpre s _ hsk).2 hsn
          have hks : st[s] < ops.size := hst _ (List.getElem_mem hsl)
          have hko : ops[st[s]]? = some ops[st[s]] := Array.getElem?_eq_getElem hks
          rw [hko] at hm
          have := hcl _ _ hko hls i (by simpa using hm)
          rw [h0f] at this
          cases this
        · left
          intro e
          injection e with e
          exact hm e
    have stp := steps i o ho n y w hn hmay hself hw hS (fun j hj => hV j (Nat.lt_trans (backOk_spec hb ho j hj) hlt) (hdl j hj))
      (wpAny P .any ops Q fuel (listed.setIfInBounds i true)) (fun v w' m hb' hm hS' hv htr => by
        rw [putL_put ops.toList 0 i a0 o hd (Nat.zero_le _) (by simpa using ho)]
        have hset : ∀ j, (listed.setIfInBounds i true).getD j false = true ↔ (j = i ∨ listed.getD j false = true) := by
          intro j
          by_cases hji : j = i
          · subst hji
            simp [Array.getD, hs, hlt]
          · rw [getD_set_ne false (Ne.symm hji)]
            simp [hji]
        have hmn : m ≤ st.length ∧ ∀ s k, st[s]? = some k → ((listed.setIfInBounds i true).getD k false = true ↔ s < m) := by
          by_cases hin : st.contains i = true
          · rw [if_pos hin] at hm
            obtain ⟨s0, hs0, hse⟩ := List.getElem_of_mem (show i ∈ st by simpa using hin)
            have e0 : s0 = n := hself s0 (by rw [List.getElem?_eq_getElem hs0, hse])
            refine ⟨by omega, fun s k hk => ?_⟩
            rw [hset, hpre s k hk]
            constructor
            · rintro (rfl | h)
              · have := hself s hk; omega
              · omega
            · intro h
              by_cases hsn : s < n
              · exact .inr hsn
              · left
                have : s = s0 := by omega
                subst this
                rw [List.getElem?_eq_getElem hs0, hse] at hk
                injection hk with hk
                exact hk.symm
          · rw [if_neg hin] at hm
            subst hm
            refine ⟨hn, fun s k hk => ?_⟩
            rw [hset, hpre s k hk]
            constructor
            · rintro (rfl | h)
              · exfalso
                apply hin
                simpa using List.mem_of_getElem? hk
              · exact h
            · exact .inr
        refine ih _ _ _ m (by simpa using hs) ?_ (hw.trans hb') hmn.1 hmn.2 ?_ hS' fun j hj hl => ?_
        · rw [Array.toList_setIfInBounds, List.count_set (by simpa using by omega)]
          simp [h0', hc]
        · intro k ok hk hl j hj
          rw [hset] at hl ⊢
          rcases hl with rfl | hl
          · rw [ho] at hk
            injection hk with hk
            subst hk
            exact .inr (hdl j hj)
          · exact .inr (hcl k ok hk hl j hj)
        · by_cases hji : j = i
          · subst hji
            simpa [upd] using hv
          · have e1 : upd y i v j = y j := by simp [upd, hji]
            rw [e1]
            rw [hset] at hl
            exact htr j hji _ (hV j hj (hl.resolve_left hji)))
    unfold wpOp
    simp only [ho]
    split at stp
    · rename_i hwn
      rw [if_pos hwn]
      exact .inl stp
    · rename_i hwn
      rw [if_neg hwn]
      exact stp

/-- What is known of an operation's value, by stages. -/
abbrev KnowS := Nat → Know
def Ck (c : Value) : KnowS := fun _ => Cv c
def Tk : KnowS := fun _ => Tv
/-- Known up to stage n, and behind that no more. -/
def Ek (n : Nat) (V : Know) : KnowS := fun m => if m ≤ n then V else Tv
/-- Known from stage n on. -/
def Fk (n : Nat) (V : Know) : KnowS := fun m => if n ≤ m then V else fun _ _ => False

/-- THE LAW FOR A REGION THAT DRAWS AND STORES. -/
theorem region_two {P : Program} {Q : Exit → Act → World → Prop} {id : Nat} {ops : Array Oper} {a0 : Act} {w0 : World} (B : Nat) (vs : List KnowS) (S : Nat → World → Prop) (st : List Nat)
    (hm : P.follows .mixedOrders = true) (hd : decide (ops.toList.filterMap (·.dst)).Nodup = true) (hb : backOk ops = true) (hline : lineOk ops st = true) (hst : st.all (fun k => decide (k < ops.size)) = true)
    (hS0 : S 0 w0.drew) (steps : StepsL2 P Q ops a0 w0 B (fun i n => vs.getD i Tk n) S st ops.toList 0)
    (fin : ∀ y w, Below B w0 w → S st.length w → (∀ i, i < ops.size → vs.getD i Tk st.length w (y i)) → Q .normal (putL ops.toList 0 y a0) w) : (Code.region id ops true).wp P Q a0 w0 := by
  refine wp_region_any hm ?_
  have h := wpAny_steps2 (P := P) (Q := Q) (ops := ops) (a0 := a0) (w0 := w0) (B := B) (V := fun i n => vs.getD i Tk n) (S := S) (st := st) (of_decide_eq_true hd) hb hline (fun k hk => by
      rw [List.all_eq_true] at hst
      simpa using hst k hk) (fun i o ho => steps.at_ ops.toList 0 i o (Nat.zero_le _) (by simpa using ho))
    fin ops.size (Array.replicate ops.size false)
    (fun i => ((ops.toList[i - 0]?).bind fun o => o.dst.map fun d => a0.tmps.getD d undef).getD undef) w0.drew 0 (by simp) (by simp) ((Below.refl _ _).drew) (Nat.zero_le _)
    (fun s k hk => by
      constructor
      · intro h
        have : (Array.replicate ops.size false).getD k false = false := by
          unfold Array.getD
          split
          · simp
          · rfl
        rw [this] at h
        cases h
      · intro h; omega)
    (fun k o ho h => by
      have hk := (Array.getElem?_eq_some_iff.1 ho).1
      rw [getD_lt _ _ _ (by simpa using hk)] at h
      simp at h) hS0 (fun i hi hl => by rw [getD_lt _ _ _ (by simpa using hi)] at hl; simp at hl)
  rw [putL_start a0 ops.toList 0] at h
  exact h

/-- All that is known of the others goes on. -/
def TransL (n m : Nat) (w w' : World) : List KnowS → Prop
  | [] => True
  | V :: vs => (∀ u, V n w u → V m w' u) ∧ TransL n m w w' vs
theorem TransL.at_ {n m : Nat} {w w' : World} : ∀ (vs : List KnowS), TransL n m w w' vs → ∀ j u, vs.getD j Tk n w u → vs.getD j Tk m w' u
  | [], _, j, u, _ => by simp [Tk, Tv]
  | V :: vs, h, 0, u, hu => by simpa using h.1 u (by simpa using hu)
  | V :: vs, h, j + 1, u, hu => by simpa using TransL.at_ vs h.2 j u (by simpa using hu)
/-- What is known goes on where the world only grows. -/
def MonoS (V : KnowS) : Prop := ∀ n, Mono (V n)
theorem mCk (c : Value) : MonoS (Ck c) := fun _ => mC c
theorem mTk : MonoS Tk := fun _ => mT
theorem mEk (n : Nat) {V : Know} (h : Mono V) : MonoS (Ek n V) := fun m => by
  unfold Ek
  split
  · exact h
  · exact mT
theorem mFk (n : Nat) {V : Know} (h : Mono V) : MonoS (Fk n V) := fun m => by
  unfold Fk
  split
  · exact h
  · exact fun _ _ _ _ hf => hf
def MonoLS : List KnowS → Prop
  | [] => True
  | V :: vs => MonoS V ∧ MonoLS vs
theorem MonoLS.at_ : ∀ (vs : List KnowS), MonoLS vs → ∀ i, MonoS (vs.getD i Tk)
  | [], _, i => by simpa using mTk
  | V :: vs, h, 0 => by simpa using h.1
  | V :: vs, h, i + 1 => by simpa using MonoLS.at_ vs h.2 i
/-- A stage's fact goes on where the world only grows. -/
def MonoW (S : World → Prop) : Prop := ∀ w w', Below w.heap.size w w' → S w → S w'

section
variable (P : Program) (Q : Exit → Act → World → Prop) (ops : Array Oper) (a0 : Act) (w0 : World) (B : Nat) (vs : List KnowS) (S : Nat → World → Prop) (st : List Nat)
/-- An operation that only reads, or makes memory. -/
def StepG (i : Nat) (o : Oper) : Prop :=
  ∀ (n : Nat) (y : Nat → Value) (w : World), n ≤ st.length → mayBe ops st i n = true → Below B w0 w → S n w → (∀ j, j ∈ depsOf o → vs.getD j Tk n w (y j)) →
    ∀ K : Act → World → Prop, (∀ v w', Below w.heap.size w w' → vs.getD i Tk n w' v → K ((putL ops.toList 0 y a0).put o.dst v) w') →
      if Region.wanted o (yielded ops (putL ops.toList 0 y a0).tmps) = true then Oper.wp P o (putL ops.toList 0 y a0) w K Q else K ((putL ops.toList 0 y a0).put o.dst undef) w
/-- A store, the n-th. -/
def StepS (i : Nat) (o : Oper) (n : Nat) : Prop :=
  ∀ (y : Nat → Value) (w : World), Below B w0 w → S n w → (∀ j, j ∈ depsOf o → vs.getD j Tk n w (y j)) →
    ∀ K : Act → World → Prop, (∀ v w', Below B w w' → S (n + 1) w' → vs.getD i Tk (n + 1) w' v → TransL n (n + 1) w w' vs → K ((putL ops.toList 0 y a0).put o.dst v) w') →
      if Region.wanted o (yielded ops (putL ops.toList 0 y a0).tmps) = true then Oper.wp P o (putL ops.toList 0 y a0) w K Q else K ((putL ops.toList 0 y a0).put o.dst undef) w
def StepsL3 : List Oper → Nat → Prop
  | [], _ => True
  | o :: os, i => (match st.idxOf? i with | some n => StepS P Q ops a0 w0 B vs S i o n | none => StepG P Q ops a0 w0 B vs S st i o) ∧ StepsL3 os (i + 1)
end
theorem steps_of {P : Program} {Q : Exit → Act → World → Prop} {ops : Array Oper} {a0 : Act} {w0 : World} {B : Nat} {vs : List KnowS} {S : Nat → World → Prop} {st : List Nat}
    (hB : B ≤ w0.heap.size) (hmono : MonoLS vs) (hSm : ∀ n, MonoW (S n)) :
    ∀ (os : List Oper) (k : Nat), StepsL3 P Q ops a0 w0 B vs S st os k → StepsL2 P Q ops a0 w0 B (fun i n => vs.getD i Tk n) S st os k
  | [], _, _ => trivial
  | o :: os, k, h => by
    refine ⟨?_, steps_of hB hmono hSm os (k + 1) h.2⟩
    intro n y w hn hmay hself hw hS hd K hK
    have h1 := h.1
    cases hi : st.idxOf? k with
    | none =>
      rw [hi] at h1
      have hnc : st.contains k = false := by
        rw [List.idxOf?_eq_none_iff] at hi
        simpa using hi
      refine h1 n y w hn hmay hw hS hd K fun v w' hb hv => hK v w' n (hb.mono (Nat.le_trans hB hw.size)) (by rw [hnc]; simp) (hSm n _ _ hb hS) hv fun j _ u hu => MonoLS.at_ vs hmono j n _ _ _ hb hu
    | some m =>
      rw [hi] at h1
      have hm : st[m]? = some k := by
        rw [List.idxOf?_eq_some_iff] at hi
        obtain ⟨h1, h2, _⟩ := hi
        rw [List.getElem?_eq_getElem h1]
        simpa using h2
      obtain rfl := hself m hm
      have hnc : st.contains k = true := by simpa using List.mem_of_getElem? hm
      exact h1 y w hw hS hd K fun v w' hb hS' hv ht => hK v w' (m + 1) hb (by rw [hnc]; simp) hS' hv fun j _ u hu => TransL.at_ vs ht j u hu
/-- THE LAW, as it is used. -/
theorem region_three {P : Program} {Q : Exit → Act → World → Prop} {id : Nat} {ops : Array Oper} {a0 : Act} {w0 : World} (B : Nat) (vs : List KnowS) (S : Nat → World → Prop) (st : List Nat)
    (hm : P.follows .mixedOrders = true) (hd : decide (ops.toList.filterMap (·.dst)).Nodup = true) (hb : backOk ops = true) (hline : lineOk ops st = true) (hst : st.all (fun k => decide (k < ops.size)) = true)
    (hB : B ≤ w0.heap.size) (hmono : MonoLS vs) (hSm : ∀ n, MonoW (S n)) (hS0 : S 0 w0) (steps : StepsL3 P Q ops a0 w0 B vs S st ops.toList 0)
    (fin : ∀ y w, Below B w0 w → S st.length w → (∀ i, i < ops.size → vs.getD i Tk st.length w (y i)) → Q .normal (putL ops.toList 0 y a0) w) : (Code.region id ops true).wp P Q a0 w0 :=
  region_two B vs S st hm hd hb hline hst (hSm 0 _ _ ((Below.refl _ _).drew) hS0) (steps_of hB hmono hSm _ _ steps) fin
theorem may_one {ops : Array Oper} {st : List Nat} {i n n0 : Nat} (hmay : mayBe ops st i n = true) (hn : n ≤ st.length) (h : (List.range (st.length + 1)).all (fun m => !(mayBe ops st i m) || decide (m = n0)) = true) : n = n0 := by
  rw [List.all_eq_true] at h
  have := h n (by simp; omega)
  rw [hmay] at this
  simpa using this
theorem may_two {ops : Array Oper} {st : List Nat} {i n n0 n1 : Nat} (hmay : mayBe ops st i n = true) (hn : n ≤ st.length) (h : (List.range (st.length + 1)).all (fun m => !(mayBe ops st i m) || decide (m = n0) || decide (m = n1)) = true) : n = n0 ∨ n = n1 := by
  rw [List.all_eq_true] at h
  have := h n (by simp; omega)
  rw [hmay] at this
  simpa using this
/-- It reads as x, and nothing of it lies in block g. -/
def Rn {α : Type} (R : Rel α) (g : Nat) (x : α) : Know := fun w v => R w (fun k => k ≠ g ∧ k < w.heap.size) v x
theorem mRn {α : Type} {R : Rel α} (o : Ok R) (g : Nat) (x : α) : Mono (Rn R g x) := fun _ _ _ hb h => o.old h hb fun _ hk _ => ⟨hk.1, Nat.lt_of_lt_of_le hk.2 hb.size⟩
/-- .. and all of it lies from block B on. -/
def Rm {α : Type} (R : Rel α) (B g : Nat) (x : α) : Know := fun w v => R w (fun k => k ≠ g ∧ B ≤ k ∧ k < w.heap.size) v x
theorem mRm {α : Type} {R : Rel α} (o : Ok R) (B g : Nat) (x : α) : Mono (Rm R B g x) := fun _ _ _ hb h => o.old h hb fun _ hk _ => ⟨hk.1, hk.2.1, Nat.lt_of_lt_of_le hk.2.2 hb.size⟩
end Go.Proofs.YtdcmbdghnkgghaaDoor.M

namespace Go.Proofs.YtdcmbdghnkgghaaDoor.M
set_option linter.unusedVariables false
open Go Go.RowKit
/-- The values themselves. -/
def RV : Rel Value := fun _ _ u x => u = x ∧ x.oneCell' = true
theorem okRV : Ok RV := ⟨fun h _ => h, fun h _ => h, fun h => h, fun h => by rw [h.1]; exact h.2⟩
theorem RdL.vals {α : Type} {R : Rel α} (o : Ok R) {w : World} {F : Fp} {v : Value} {xs : List α} (h : RdL R w F v xs) : ∃ us : List Value, RdL RV w F v us ∧ us.length = xs.length ∧ ∀ (j : Nat) (u : Value) (x : α), us[j]? = some u → xs[j]? = some x → R w F u x := by
  obtain ⟨us, h1, h2, h3⟩ := h
  refine ⟨us, ⟨us, h1, rfl, fun j u x hu hx => ?_⟩, h2, h3⟩
  rw [hu] at hx
  injection hx with hx
  subst hx
  have hj := (List.getElem?_eq_some_iff.1 hu).1
  exact ⟨rfl, o.one (h3 j u (xs[j]'(by omega)) hu (List.getElem?_eq_getElem _))⟩
theorem RdL.of_vals {α : Type} {R : Rel α} {w : World} {F : Fp} {v : Value} {us : List Value} {xs : List α} (h : RdL RV w F v us) (hl : us.length = xs.length) (hR : ∀ (j : Nat) (u : Value) (x : α), us[j]? = some u → xs[j]? = some x → R w F u x) : RdL R w F v xs := by
  obtain ⟨us', h1, h2, h3⟩ := h
  have : us' = us := by
    apply List.ext_getElem h2
    intro i h4 h5
    exact (h3 i _ _ (List.getElem?_eq_getElem h4) (List.getElem?_eq_getElem h5)).1
  subst this
  exact ⟨us', h1, hl, hR⟩
/-- A store into a block that a reading does not touch. -/
theorem Ok.setc {α : Type} {R : Rel α} (o : Ok R) {w : World} {F : Fp} {u : Value} {x : α} (h : R w F u x) {b j : Nat} {v : Value} (hb : ∀ k, F k → k ≠ b) : R (w.setCell ⟨b, j, none⟩ v) F u x :=
  o.keep h fun k hk _ => Below.heap_setCell w ⟨b, j, none⟩ v k (hb k hk)
theorem Bld.setc {α : Type} {R : Rel α} (o : Ok R) {E : TypeId} {w : World} {base : Nat} {G : Fp} {u : Value} {xs : List α} (h : Bld R E w base G u xs) {b j : Nat} {v : Value} (h1 : ∀ k, u.ownBlock = some k → k ≠ b) (hb : ∀ k, G k → k < w.heap.size → k ≠ b) : Bld R E (w.setCell ⟨b, j, none⟩ v) base G u xs :=
  (h.lt o).keepF o (fun k hk => Below.heap_setCell w ⟨b, j, none⟩ v k (h1 k hk)) (fun k _ hG _ => Below.heap_setCell w ⟨b, j, none⟩ v k (hb k hG.1 hG.2)) |> fun h => h.mono o fun _ _ hk => hk.1
theorem Bld.anyG {E : TypeId} {w : World} {base : Nat} {G G' : Fp} {v : Value} {us : List Value} (h : Bld RV E w base G v us) : Bld RV E w base G' v us := h
theorem Bld.setcV {E : TypeId} {w : World} {base : Nat} {G : Fp} {u : Value} {xs : List Value} (h : Bld RV E w base G u xs) {b j : Nat} {v : Value} (h1 : ∀ k, u.ownBlock = some k → k ≠ b) : Bld RV E (w.setCell ⟨b, j, none⟩ v) base G u xs :=
  (Bld.setc okRV (h.anyG (G' := fun _ => False)) h1 fun _ hk => hk.elim).anyG
section
variable {P : Program} {α : Type} {R : Rel α} {e : TypeId} {bytes : Nat}
/-- AT A STEP 'append(v, ..)' of a statement that draws its order. -/
theorem wp_append_bld {w : World} {o : Oper} {a : Act} {Q : Exit → Act → World → Prop} {K : Act → World → Prop} (s x : Operand) (t : TypeId)
    (ho : o.op = .call { callee := .builtin .append, args := #[s, x], argTypes := #[t, t] }) (ok : Ok R) (T : SlTy P t e bytes) (base : Nat) (G : Fp) (v xv : Value) (xs ys : List α) (hs : a.eval s = v) (hx : a.eval x = xv)
    (hown : Bld R e w base G v xs) (hsrc : RdL R w (fun k => some k ≠ v.ownBlock ∧ G k) xv ys)
    (hbytes : (xs.length + ys.length) * bytes ≤ 140737488355328) (hbase : base ≤ w.heap.size)
    (h : ∀ v' w', Bld R e w' base G v' (xs ++ ys) → Below base w w' → w.grownBy w' v.ownBlock → (v'.ownBlock = v.ownBlock ∨ v'.ownBlock = some w.heap.size) → K (a.put o.dst v') w') : Oper.wp P o a w K Q := by
  obtain ⟨i, z, ht, hi, hz, hsize, hby, hzs, hpos⟩ := T
  have h63 : xs.length + ys.length ≤ maxLen := by
    have : (xs.length + ys.length) * 1 ≤ (xs.length + ys.length) * bytes := Nat.mul_le_mul_left _ hpos
    unfold maxLen
    omega
  obtain ⟨v', w', hr, h2, h3, h4⟩ := run_append_bld (P := P) w ok base t o.type e i z bytes ht hi hz hsize hby hzs G v xv xs ys hown hsrc h63 hbytes hbase
  unfold Oper.wp execOp
  simp only [ho, resolve, invoke, builtin, Sem.run_bind, Sem.run_pure, Result.andThen_ok, List.map_toArray, List.map_cons, List.map_nil, hs, hx, hr]
  exact h v' w' h2 ((Below.refl base w).grown h3 hbase fun k hk => (hown.blk k hk).1) h3 h4
end
/-- A slice of the call's own, not in block g. -/
def Ow (E : TypeId) (B g : Nat) (us : List Value) : Know := fun w v => Bld RV E w B (fun _ => True) v us ∧ ∀ k, v.ownBlock = some k → k ≠ g
theorem mOw (E : TypeId) (B g : Nat) (us : List Value) : Mono (Ow E B g us) := fun _ _ _ hb h => ⟨h.1.grow okRV hb, h.2⟩
theorem setCell_size (w : World) (p : Addr) (v : Value) : (w.setCell p v).heap.size = w.heap.size := by simp
/-- A box, known whole. -/
def BoxAt (w : World) (b : Nat) (T : TypeId) (cs : List Value) : Prop := w.heap[b]? = some (.cells cs.toArray T)
theorem boxAt_new (w : World) (T : TypeId) (cs : List Value) : BoxAt (w.alloc (.cells cs.toArray T)) w.heap.size T cs := heap_alloc_new w _
section
variable {w w' : World} {b : Nat} {T : TypeId} {cs : List Value}
theorem BoxAt.lt (h : BoxAt w b T cs) : b < w.heap.size := (Array.getElem?_eq_some_iff.1 h).1
theorem BoxAt.keep (h : BoxAt w b T cs) {B : Nat} (hb : Below B w w') (hB : b < B) : BoxAt w' b T cs := (hb.block b hB).trans h
theorem BoxAt.grow (h : BoxAt w b T cs) (hb : Below w.heap.size w w') : BoxAt w' b T cs := h.keep hb h.lt
theorem BoxAt.cell (h : BoxAt w b T cs) (j : Nat) : w.cell? ⟨b, j, none⟩ = cs[j]? := by
  rw [cell_of_row w b j _ _ _ h]
  simp
theorem BoxAt.fr (h : BoxAt w b T cs) (j : Nat) : w.frozen? ⟨b, j, none⟩ = false := frozen_of_row w b j _ _ h
theorem BoxAt.set_ (h : BoxAt w b T cs) (j : Nat) (v : Value) : BoxAt (w.setCell ⟨b, j, none⟩ v) b T (cs.set j v) := by
  unfold BoxAt at h ⊢
  unfold World.setCell
  simp only [Array.getElem?_modify, if_pos, h, Option.map_some]
  simp
theorem BoxAt.far (h : BoxAt w b T cs) {b' j : Nat} {v : Value} (hb : b ≠ b') : BoxAt (w.setCell ⟨b', j, none⟩ v) b T cs := (Below.heap_setCell w ⟨b', j, none⟩ v b hb).trans h
theorem BoxAt.alloc (h : BoxAt w b T cs) (o : Obj) : BoxAt (w.alloc o) b T cs := h.grow (below_alloc w o)
end
/-- A box of two cells: its facts, as the walk wants them. -/
theorem BoxAt.two {w : World} {b : Nat} {T : TypeId} {a0 a1 : Value} (h : BoxAt w b T [a0, a1]) : w.cell? ⟨b, 0, none⟩ = some a0 ∧ w.cell? ⟨b, 1, none⟩ = some a1 ∧ w.frozen? ⟨b, 0, none⟩ = false ∧ w.frozen? ⟨b, 1, none⟩ = false :=
  ⟨h.cell 0, h.cell 1, h.fr 0, h.fr 1⟩
theorem BoxAt.four {w : World} {b : Nat} {T : TypeId} {a0 a1 a2 a3 : Value} (h : BoxAt w b T [a0, a1, a2, a3]) : w.cell? ⟨b, 0, none⟩ = some a0 ∧ w.cell? ⟨b, 1, none⟩ = some a1 ∧ w.cell? ⟨b, 2, none⟩ = some a2 ∧ w.cell? ⟨b, 3, none⟩ = some a3 :=
  ⟨h.cell 0, h.cell 1, h.cell 2, h.cell 3⟩
/-- A box of two cells, stored into whole. -/
def set2 (w : World) (b : Nat) (v0 v1 : Value) : World := (w.setCell ⟨b, 0, none⟩ v0).setCell ⟨b, 1, none⟩ v1
section
variable {w : World} {b b' : Nat} {T : TypeId} {cs : List Value} {a0 a1 v0 v1 : Value}
theorem BoxAt.put2 (h : BoxAt w b T [a0, a1]) : BoxAt (set2 w b v0 v1) b T [v0, v1] := (h.set_ 0 v0).set_ 1 v1
theorem BoxAt.far2 (h : BoxAt w b T cs) (hb : b ≠ b') : BoxAt (set2 w b' v0 v1) b T cs := (h.far hb).far hb
theorem Ok.set2 {α : Type} {R : Rel α} (o : Ok R) {F : Fp} {u : Value} {x : α} (h : R w F u x) (hb : ∀ k, F k → k ≠ b) : R (set2 w b v0 v1) F u x := o.setc (o.setc h hb) hb
theorem Bld.set2 {α : Type} {R : Rel α} (o : Ok R) {E : TypeId} {base : Nat} {G : Fp} {u : Value} {xs : List α} (h : Bld R E w base G u xs) (h1 : ∀ k, u.ownBlock = some k → k ≠ b) (hb : ∀ k, G k → k ≠ b) : Bld R E (set2 w b v0 v1) base G u xs :=
  (h.setc o h1 fun k hk _ => hb k hk).setc o h1 fun k hk _ => hb k hk
theorem RdA.set2 {F : Fp} {u : Value} {a : Arr} (h : RdA w F u a) (hb : ∀ k, F k → k ≠ b) : RdA (set2 w b v0 v1) F u a := by
  obtain ⟨dv, iv, rfl, h1, h2⟩ := h
  exact ⟨dv, iv, rfl, okBBB.set2 h1 hb, okIs.set2 h2 hb⟩
theorem below_set2 {B : Nat} (hb : B ≤ b) : Below B w (set2 w b v0 v1) := ((Below.refl B w).setCell (p := ⟨b, 0, none⟩) hb v0).setCell (p := ⟨b, 1, none⟩) hb v1
theorem set2_size : (set2 w b v0 v1).heap.size = w.heap.size := by unfold set2; rw [setCell_size, setCell_size]
end
/-- Two boxes, one behind the other: what came in, and what goes out. -/
theorem two_boxes (w : World) (v0 v1 : Value) (T : TypeId) :
    BoxAt ((w.alloc (.cells #[v0, v1] T)).alloc (.cells #[.slice none 0 0, .slice none 0 0] T)) w.heap.size T [v0, v1] ∧
    BoxAt ((w.alloc (.cells #[v0, v1] T)).alloc (.cells #[.slice none 0 0, .slice none 0 0] T)) (w.heap.size + 1) T [.slice none 0 0, .slice none 0 0] ∧
    Below w.heap.size w ((w.alloc (.cells #[v0, v1] T)).alloc (.cells #[.slice none 0 0, .slice none 0 0] T)) ∧
    ((w.alloc (.cells #[v0, v1] T)).alloc (.cells #[.slice none 0 0, .slice none 0 0] T)).heap.size = w.heap.size + 2 := by
  have h0 := boxAt_new w T [v0, v1]
  have h1 := below_alloc w (.cells #[v0, v1] T)
  have h2 := boxAt_new (w.alloc (.cells #[v0, v1] T)) T [.slice none 0 0, .slice none 0 0]
  have h3 := below_alloc (w.alloc (.cells #[v0, v1] T)) (.cells #[.slice none 0 0, .slice none 0 0] T)
  rw [alloc_size] at h2
  exact ⟨h0.grow h3, h2, h1.trans (h3.mono h1.size), by rw [alloc_size, alloc_size]⟩
end Go.Proofs.YtdcmbdghnkgghaaDoor.M

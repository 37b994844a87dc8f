/- Arrays as values. No program in sight. -/
import Derived.Test.YtlbnkoahkfhimaaMem3
import Derived.Test.YtlbnkoahkfhimaaPureB
namespace Go.Proofs.Ytlbnkoahkfhimaa.M
set_option linter.unusedVariables false
open Go Go.RowKit
/-- Two slices that grow side by side. -/
def Pair2 {α : Type} (R : Rel α) (e : TypeId) (w : World) (base : Nat) (G : Fp) (u : Value) (xs : List α) (v : Value) (ys : List α) : Prop :=
  Bld R e w base (fun k => some k ≠ v.ownBlock ∧ G k) u xs ∧ Bld R e w base (fun k => some k ≠ u.ownBlock ∧ G k) v ys ∧ (∀ k, u.ownBlock = some k → v.ownBlock ≠ some k)
theorem Pair2.nil_ {α : Type} (R : Rel α) (e : TypeId) (w : World) (base : Nat) (G : Fp) : Pair2 R e w base G (.slice none 0 0) [] (.slice none 0 0) [] :=
  ⟨Bld.nil_ _ _ _ _ _, Bld.nil_ _ _ _ _ _, fun k hk => by simp [Value.ownBlock] at hk⟩
theorem Pair2.symm {α : Type} {R : Rel α} {e : TypeId} {w : World} {base : Nat} {G : Fp} {u v : Value} {xs ys : List α} (h : Pair2 R e w base G u xs v ys) : Pair2 R e w base G v ys u xs :=
  ⟨h.2.1, h.1, fun k hk hu => h.2.2 k hu hk⟩
theorem Pair2.grow {α : Type} {R : Rel α} (o : Ok R) {e : TypeId} {w w' : World} {base : Nat} {G : Fp} {u v : Value} {xs ys : List α} (h : Pair2 R e w base G u xs v ys) (hb : Below w.heap.size w w') : Pair2 R e w' base G u xs v ys :=
  ⟨h.1.grow o hb, h.2.1.grow o hb, h.2.2⟩
section
variable {P : Program} {α : Type} {R : Rel α} {e : TypeId} {bytes : Nat}
theorem wpList_append_pair {w : World} {ops : Array Oper} {rest : List Oper} {o : Oper} {a : Act} {Q : Exit → Act → World → Prop} (hgd : o.guard = none) (s x : Operand) (t : TypeId)
    (ho : o.op = .call { callee := .builtin .append, args := #[s, x], argTypes := #[t, t] }) (ok : Ok R) (T : SlTy P t e bytes) {z : Value} {e' : TypeId} (base : Nat) (G : Fp) (u v : Value) (xs ys : List α) (y : α) (n : Nat) (hn : w.heap.size = n)
    (hs : a.eval s = u) (hx : a.eval x = .slice (some ⟨n, 0, none⟩) 1 1) (hp : Pair2 R e w base G u xs v ys) (hz : R w (fun k => some k ≠ u.ownBlock ∧ some k ≠ v.ownBlock ∧ G k) z y) (hG : ∀ k, base ≤ k → G k)
    (hbytes : (xs.length + 1) * bytes ≤ 140737488355328) (hbase : base ≤ w.heap.size)
    (h : ∀ u' w', Pair2 R e w' base G u' (xs ++ [y]) v ys → Below base w w' → R w' (fun k => some k ≠ u'.ownBlock ∧ some k ≠ v.ownBlock ∧ G k) z y → wpList P ops Q rest (a.put o.dst u') w') : wpList P ops Q (o :: rest) a (w.alloc (.cells #[z] e')) := by
  subst hn
  obtain ⟨h1, h2, h3⟩ := hp
  have hz' := ok.lt hz
  have hsrc := src_one ok (R' := R) h1 (G := fun k => some k ≠ v.ownBlock ∧ G k) ⟨fun ek => by have := (h2.blk _ ek.symm).2; omega, hG _ hbase⟩ (u := z) (x := y) hz e' rfl
  refine wpList_append_bld (w.alloc (.cells #[z] e')) hgd s x t ho ok T base (fun k => some k ≠ v.ownBlock ∧ G k) u _ xs [y] hs hx (h1.alloc ok _) hsrc (by simpa using hbytes) (by rw [alloc_size]; omega) ?_
  intro u' w' g1 g2 g3 g4
  have hal := below_alloc w (.cells #[z] e')
  have hsz := alloc_size w (.cells #[z] e')
  have hub := h1.blk
  have hvb := h2.blk
  have hnew : ∀ k, k < w.heap.size → some k ≠ u.ownBlock → some k ≠ u'.ownBlock := fun k hk hne e => by
    rcases g4 with e4 | e4
    · exact hne (e.trans e4)
    · rw [e4] at e
      injection e with e
      omega
  refine h u' w' ⟨g1, ?_, ?_⟩ ((hal.mono hbase).trans g2) ?_
  · have k2 := ((h2.lt ok).alloc ok (.cells #[z] e')).keep ok (w' := w') g3 (by
      cases hv : v.ownBlock with
      | none => exact .inl rfl
      | some k => right; intro e; exact h3 k e.symm hv) fun k hk hG => hG.1.1
    exact k2.mono ok fun k hk hG => ⟨hnew k hG.2 hG.1.1, hG.1.2⟩
  · intro k hk hv
    rcases g4 with e4 | e4
    · exact h3 k (e4 ▸ hk) hv
    · have := (hvb k hv).2
      rw [hk] at e4
      injection e4 with e4
      omega
  · have k1 := ok.grow hz' hal
    refine ok.mono (ok.keep k1 fun k hk hl => g3.block k hl hk.1.1) fun k hk => ⟨hnew k hk.2 hk.1.1, hk.1.2⟩
end
/-- A list of intents, two cells each. -/
def RdIs : Rel (List (Int × List Bs)) := fun w F v is => ∃ A c, v = .slice A is.length c ∧ is.length ≤ c ∧ c ≤ maxLen ∧
  (0 < is.length → ∃ b off, A = some ⟨b, off, none⟩ ∧ F b ∧ ∀ (j : Nat) (i : Int × List Bs), is[j]? = some i → w.cell? ⟨b, off + j * 2, none⟩ = some (.int .i64 i.1) ∧ ∃ u, w.cell? ⟨b, off + j * 2 + 1, none⟩ = some u ∧ RdBB w F u i.2)
theorem okIs : Ok RdIs where
  mono := fun {w F F' u x} ⟨A, c, h1, h2, h3, h4⟩ hm => ⟨A, c, h1, h2, h3, fun hn => by
    obtain ⟨b, off, e1, e2, e3⟩ := h4 hn
    refine ⟨b, off, e1, hm b e2, fun j i hi => ?_⟩
    obtain ⟨g1, y, g2, g3⟩ := e3 j i hi
    exact ⟨g1, y, g2, okBB.mono g3 hm⟩⟩
  keep := fun {w w' F u x} ⟨A, c, h1, h2, h3, h4⟩ hk => ⟨A, c, h1, h2, h3, fun hn => by
    obtain ⟨b, off, e1, e2, e3⟩ := h4 hn
    refine ⟨b, off, e1, e2, fun j i hi => ?_⟩
    obtain ⟨g1, y, g2, g3⟩ := e3 j i hi
    have hb := hk b e2 (World.block_lt_of_cell? w ⟨b, off + j * 2, none⟩ g1)
    refine ⟨?_, y, ?_, okBB.keep g3 hk⟩
    · rw [World.cell?_of_block (w := w) (a := ⟨b, off + j * 2, none⟩) hb]; exact g1
    · rw [World.cell?_of_block (w := w) (a := ⟨b, off + j * 2 + 1, none⟩) hb]; exact g2⟩
  lt := fun {w F u x} ⟨A, c, h1, h2, h3, h4⟩ => ⟨A, c, h1, h2, h3, fun hn => by
    obtain ⟨b, off, e1, e2, e3⟩ := h4 hn
    have h0 : x[0]? = some (x[0]'hn) := List.getElem?_eq_getElem hn
    refine ⟨b, off, e1, ⟨e2, World.block_lt_of_cell? w ⟨b, off + 0 * 2, none⟩ (e3 0 _ h0).1⟩, fun j i hi => ?_⟩
    obtain ⟨g1, y, g2, g3⟩ := e3 j i hi
    exact ⟨g1, y, g2, okBB.lt g3⟩⟩
  one := fun ⟨A, c, h1, _⟩ => by rw [h1]; rfl
theorem RdIs.nil_ (w : World) (F : Fp) (A : Option Addr) (c : Nat) (hc : c ≤ maxLen) : RdIs w F (.slice A 0 c) [] := ⟨A, c, rfl, Nat.zero_le _, hc, fun h => by simp at h⟩
theorem RdIs.shape {w : World} {F : Fp} {v : Value} {is : List (Int × List Bs)} (h : RdIs w F v is) : ∃ A c, v = .slice A is.length c ∧ is.length ≤ c ∧ c ≤ maxLen := by
  obtain ⟨A, c, h1, h2, h3, _⟩ := h
  exact ⟨A, c, h1, h2, h3⟩
theorem RdIs.q {w : World} {F : Fp} {v : Value} {is : List (Int × List Bs)} (h : RdIs w F v is) {j : Nat} {i : Int × List Bs} (hi : is[j]? = some i) :
    ∃ b off c u, v = .slice (some ⟨b, off, none⟩) is.length c ∧ is.length ≤ c ∧ c ≤ maxLen ∧ w.cell? ⟨b, off + j * 2, none⟩ = some (.int .i64 i.1) ∧ w.cell? ⟨b, off + j * 2 + 1, none⟩ = some u ∧ RdBB w F u i.2 := by
  obtain ⟨A, c, h1, h2, h3, h4⟩ := h
  obtain ⟨b, off, e1, _, e3⟩ := h4 (by have := (List.getElem?_eq_some_iff.1 hi).1; omega)
  obtain ⟨g1, u, g2, g3⟩ := e3 j i hi
  exact ⟨b, off, c, u, by rw [h1, e1], h2, h3, g1, g2, g3⟩
/-- A new list of one intent. -/
theorem RdIs.one_ {w : World} {F : Fp} {u : Value} {s : Int} {l : List Bs} (h : RdBB w F u l) (e : TypeId) (hF : F w.heap.size) : RdIs (w.alloc (.cells #[.int .i64 s, u] e)) F (.slice (some ⟨w.heap.size, 0, none⟩) 1 1) [(s, l)] := by
  refine ⟨_, 1, rfl, by simp, by simp [maxLen], fun _ => ⟨_, 0, rfl, hF, fun j i hi => ?_⟩⟩
  match j with
  | 0 =>
    simp at hi
    subst hi
    exact ⟨cell_of_row _ _ _ _ _ _ (heap_alloc_new w _), u, cell_of_row _ _ _ _ _ _ (heap_alloc_new w _), okBB.grow h (below_alloc _ _)⟩
  | j + 1 => simp at hi
/-- An array. -/
def RdA : Rel Arr := fun w F v a => ∃ dv iv, v = .agg #[dv, iv] ∧ RdBBB w F dv a.disks ∧ RdIs w F iv a.ints
theorem RdA.mono {w : World} {F F' : Fp} {v : Value} {a : Arr} (h : RdA w F v a) (hm : ∀ k, F k → F' k) : RdA w F' v a := by
  obtain ⟨dv, iv, rfl, h1, h2⟩ := h
  exact ⟨dv, iv, rfl, okBBB.mono h1 hm, okIs.mono h2 hm⟩
theorem RdA.grow {w w' : World} {F : Fp} {v : Value} {a : Arr} (h : RdA w F v a) (hb : Below w.heap.size w w') : RdA w' F v a := by
  obtain ⟨dv, iv, rfl, h1, h2⟩ := h
  exact ⟨dv, iv, rfl, okBBB.grow h1 hb, okIs.grow h2 hb⟩
theorem RdA.lt {w : World} {F : Fp} {v : Value} {a : Arr} (h : RdA w F v a) : RdA w (fun k => F k ∧ k < w.heap.size) v a := by
  obtain ⟨dv, iv, rfl, h1, h2⟩ := h
  exact ⟨dv, iv, rfl, okBBB.lt h1, okIs.lt h2⟩
/-- Its disks, its cells, in memory. -/
theorem disks_form {w : World} {F : Fp} {v : Value} {D : List (List Bs)} (h : RdBBB w F v D) (hs : Shape D) : ∃ b off c, v = .slice (some ⟨b, off, none⟩) 4 c ∧ F b ∧ b < w.heap.size ∧ 4 ≤ c ∧ c ≤ maxLen := by
  obtain ⟨b, off, c, hv, h1, h2, h3, h4⟩ := h.form (by rw [hs.1]; decide)
  rw [hs.1] at hv h3
  exact ⟨b, off, c, hv, h1, h2, h3, h4⟩
theorem disks_row {w : World} {F : Fp} {b off n c : Nat} {D : List (List Bs)} (h : RdBBB w F (.slice (some ⟨b, off, none⟩) n c) D) (hs : Shape D) {d : Nat} (hd : d < 4) :
    ∃ b1 o1 c1, w.cell? ⟨b, off + d, none⟩ = some (.slice (some ⟨b1, o1, none⟩) 3 c1) ∧ RdBB w F (.slice (some ⟨b1, o1, none⟩) 3 c1) (D.getD d []) ∧ 3 ≤ c1 ∧ c1 ≤ maxLen := by
  obtain ⟨r, h1, h2, _, h4⟩ := hs.row hd
  obtain ⟨u, hu, hR⟩ := RdL_q h h1
  obtain ⟨b1, o1, c1, rfl, _, _, h5, h6⟩ := hR.form (by rw [h2]; decide)
  rw [h2] at hu hR h5
  exact ⟨b1, o1, c1, hu, by rw [h4]; exact hR, h5, h6⟩
theorem disks_cell {w : World} {F : Fp} {b off n c : Nat} {D : List (List Bs)} (h : RdBBB w F (.slice (some ⟨b, off, none⟩) n c) D) (hs : Shape D) {d s : Nat} (hd : d < 4) (hs3 : s < 3) :
    ∃ b1 o1 c1 A c2, w.cell? ⟨b, off + d, none⟩ = some (.slice (some ⟨b1, o1, none⟩) 3 c1) ∧ 3 ≤ c1 ∧ c1 ≤ maxLen ∧ w.cell? ⟨b1, o1 + s, none⟩ = some (.slice A (cellAt D d s).length c2) ∧ RdB w F (.slice A (cellAt D d s).length c2) (cellAt D d s) := by
  obtain ⟨b1, o1, c1, h1, h2, h3, h4⟩ := disks_row h hs hd
  obtain ⟨r, _, hr2, hr3, _⟩ := hs.cell hd hs3
  have hc : (D.getD d [])[s]? = some (cellAt D d s) := by
    obtain ⟨r', e1, _, _, e4⟩ := hs.row hd
    rw [e4]
    have : r' = r := by
      have := ‹D[d]? = some r›
      rw [e1] at this
      injection this
    rw [this]
    exact hr3
  obtain ⟨u, hu, hR⟩ := RdL_q h2 hc
  obtain ⟨A, c2, rfl, _, _⟩ := hR.shape
  exact ⟨b1, o1, c1, A, c2, h1, h3, h4, hu, hR⟩
end Go.Proofs.Ytlbnkoahkfhimaa.M

/- More words for memory: records in boxes, one element ahead of append. No program in sight. -/
import Derived.Test.YtlbnkoahkfhimaaMem
namespace Go.Proofs.Ytlbnkoahkfhimaa.M
set_option linter.unusedVariables false
open Go Go.RowKit
theorem alloc_size (w : World) (o : Obj) : (w.alloc o).heap.size = w.heap.size + 1 := by
  unfold World.alloc
  exact Array.size_push _
/-- One element, of a block that is laid for it, ahead of 'append(v, x)'. -/
theorem src_one {α : Type} {R R' : Rel α} (o : Ok R) {E : TypeId} {w : World} {base : Nat} {G : Fp} {v : Value} {xs : List α} (hO : Bld R' E w base G v xs) (hG : G w.heap.size) {u : Value} {x : α} (h : R w (fun k => some k ≠ v.ownBlock ∧ G k) u x) (e : TypeId) {n : Nat} (hn : w.heap.size = n) :
    RdL R (w.alloc (.cells #[u] e)) (fun k => some k ≠ v.ownBlock ∧ G k) (.slice (some ⟨n, 0, none⟩) 1 1) [x] := by
  subst hn
  exact RdL.one_ o h e ⟨not_own fun k hk => (hO.blk k hk).2, hG⟩
/-- A record of four cells, boxed. -/
structure Boxed4 (w : World) (b : Nat) (a0 a1 a2 a3 : Value) : Prop where
  c0 : w.cell? ⟨b, 0, none⟩ = some a0
  c1 : w.cell? ⟨b, 1, none⟩ = some a1
  c2 : w.cell? ⟨b, 2, none⟩ = some a2
  c3 : w.cell? ⟨b, 3, none⟩ = some a3
  lt : b < w.heap.size
theorem Boxed4.keep {w w' : World} {b : Nat} {a0 a1 a2 a3 : Value} (h : Boxed4 w b a0 a1 a2 a3) {B : Nat} (hb : Below B w w') (hB : b < B) : Boxed4 w' b a0 a1 a2 a3 :=
  ⟨(hb.cell hB).trans h.c0, (hb.cell hB).trans h.c1, (hb.cell hB).trans h.c2, (hb.cell hB).trans h.c3, Nat.lt_of_lt_of_le h.lt hb.size⟩
theorem boxed4_new (w : World) (a0 a1 a2 a3 : Value) (T : TypeId) : Boxed4 (w.alloc (.cells #[a0, a1, a2, a3] T)) w.heap.size a0 a1 a2 a3 :=
  ⟨cell_of_row _ _ 0 _ _ _ (heap_alloc_new w _), cell_of_row _ _ 1 _ _ _ (heap_alloc_new w _), cell_of_row _ _ 2 _ _ _ (heap_alloc_new w _), cell_of_row _ _ 3 _ _ _ (heap_alloc_new w _), by rw [alloc_size]; omega⟩
/-- A record of two cells, boxed. -/
structure Boxed2 (w : World) (b : Nat) (a0 a1 : Value) : Prop where
  c0 : w.cell? ⟨b, 0, none⟩ = some a0
  c1 : w.cell? ⟨b, 1, none⟩ = some a1
  lt : b < w.heap.size
theorem Boxed2.keep {w w' : World} {b : Nat} {a0 a1 : Value} (h : Boxed2 w b a0 a1) {B : Nat} (hb : Below B w w') (hB : b < B) : Boxed2 w' b a0 a1 :=
  ⟨(hb.cell hB).trans h.c0, (hb.cell hB).trans h.c1, Nat.lt_of_lt_of_le h.lt hb.size⟩
theorem boxed2_new (w : World) (a0 a1 : Value) (T : TypeId) : Boxed2 (w.alloc (.cells #[a0, a1] T)) w.heap.size a0 a1 :=
  ⟨cell_of_row _ _ 0 _ _ _ (heap_alloc_new w _), cell_of_row _ _ 1 _ _ _ (heap_alloc_new w _), by rw [alloc_size]; omega⟩
end Go.Proofs.Ytlbnkoahkfhimaa.M

/- TopRot: facts on the array all blocks of which have something: a byte of a cell of each stripe rots. -/
import Derived.Test.YtdcmbdghnkgghaaDoorTopDisks
namespace Go.Proofs.YtdcmbdghnkgghaaDoor
set_option linter.unusedVariables false
open Go Go.RowKit M
def rot3 (i j k m : Int) : Arr := (rotA (rotA (rotA fullA i 0 m).1 j 1 m).1 k 2 m).1
def Rot3Ok (m : Nat) : Prop := ∀ i j k : Fin 4, (mendsTo (rot3 i.val j.val k.val m) 3).disks = fullA.disks ∧ (mendsTo (rot3 i.val j.val k.val m) 3).ints.length = 0 ∧ blocksA (rot3 i.val j.val k.val m).disks = (wantF, 0) ∧ worstA (rot3 i.val j.val k.val m).disks = 1
instance (m : Nat) : Decidable (Rot3Ok m) := by unfold Rot3Ok; infer_instance
theorem g_rot0 : Rot3Ok 0 := by decide +kernel
theorem g_rot1 : Rot3Ok 1 := by decide +kernel
theorem g_rot2 : Rot3Ok 2 := by decide +kernel
theorem g_rot3 : Rot3Ok 3 := by decide +kernel
theorem g_rot4 : Rot3Ok 4 := by decide +kernel
theorem g_rot5 : Rot3Ok 5 := by decide +kernel
theorem g_rot6 : Rot3Ok 6 := by decide +kernel
theorem g_rot7 : Rot3Ok 7 := by decide +kernel
theorem rot_facts {i j k m : Int} (hi : 0 ≤ i ∧ i < 4) (hj : 0 ≤ j ∧ j < 4) (hk : 0 ≤ k ∧ k < 4) (hm : 0 ≤ m ∧ m < 8) : mendsTo (rot3 i j k m) 3 = fullA ∧ blocksA (rot3 i j k m).disks = (wantF, 0) ∧ worstA (rot3 i j k m).disks = 1 := by
  obtain ⟨i, rfl⟩ : ∃ x : Nat, i = x := ⟨i.toNat, by omega⟩
  obtain ⟨j, rfl⟩ : ∃ x : Nat, j = x := ⟨j.toNat, by omega⟩
  obtain ⟨k, rfl⟩ : ∃ x : Nat, k = x := ⟨k.toNat, by omega⟩
  obtain ⟨m, rfl⟩ : ∃ x : Nat, m = x := ⟨m.toNat, by omega⟩
  have h : Rot3Ok m := by
    match m, hm.2 with
    | 0, _ => exact g_rot0
    | 1, _ => exact g_rot1
    | 2, _ => exact g_rot2
    | 3, _ => exact g_rot3
    | 4, _ => exact g_rot4
    | 5, _ => exact g_rot5
    | 6, _ => exact g_rot6
    | 7, _ => exact g_rot7
    | m + 8, h => omega
  have h4 := h ⟨i, by omega⟩ ⟨j, by omega⟩ ⟨k, by omega⟩
  exact ⟨arr_ext h4.1 ((List.eq_nil_of_length_eq_zero h4.2.1).trans full_good.2.symm), h4.2.2⟩
/-- The array, the first k stripes of which have rotted. -/
def rotTo (ds : List Int) (m : Int) (k : Nat) : Arr := (List.range k).foldl (fun a s => (rotA a (ds.getD s 0) (s : Nat) m).1) fullA
theorem rotTo_zero (ds : List Int) (m : Int) : rotTo ds m 0 = fullA := by unfold rotTo; rw [List.range_zero, List.foldl_nil]
theorem rotTo_next (ds : List Int) (m : Int) (k : Nat) : rotTo ds m (k + 1) = (rotA (rotTo ds m k) (ds.getD k 0) (k : Nat) m).1 := by
  unfold rotTo
  rw [List.range_succ, List.foldl_append]
  rfl
theorem rotTo_three (ds : List Int) (m : Int) : rotTo ds m 3 = rot3 (ds.getD 0 0) (ds.getD 1 0) (ds.getD 2 0) m := by
  rw [rotTo_next, rotTo_next, rotTo_next, rotTo_zero]
  rfl
theorem rotTo_facts {ds : List Int} {m : Int} (h : ∀ i, i < 3 → 0 ≤ ds.getD i 0 ∧ ds.getD i 0 < 4) (hm : 0 ≤ m ∧ m < 8) : mendsTo (rotTo ds m 3) 3 = fullA ∧ blocksA (rotTo ds m 3).disks = (wantF, 0) ∧ worstA (rotTo ds m 3).disks = 1 := by
  rw [rotTo_three]
  exact rot_facts (h 0 (by decide)) (h 1 (by decide)) (h 2 (by decide)) hm
theorem rotTo_good (ds : List Int) (m : Int) (k : Nat) : Shape (rotTo ds m k).disks ∧ (rotTo ds m k).ints = [] := by
  induction k with
  | zero => rw [rotTo_zero]; exact full_good
  | succ k ih =>
    rw [rotTo_next]
    refine ⟨rot_shape ih.1 _ _ _, ?_⟩
    rcases rot_cases (rotTo ds m k) (ds.getD k 0) (k : Nat) m with e | ⟨_, _, _, _, _, _, _, _, _, e⟩ <;> rw [e] <;> exact ih.2
def stR (n m : Int) : Step := ⟨3, n, m, zeroD⟩
theorem stepP_rot (a : Arr) {d : Int} {s : Nat} (m : Int) (h0 : 0 ≤ d) (hs : s < 3) : stepP a (stR (3 * d + s) m) = rotA a d s m := by
  have h1 : (3 * d + s) / 3 = d := by omega
  have h2 : (3 * d + s) % 3 = s := by omega
  show (if (3 * d + s : Int) < 0 then (a, 6) else rotA a ((3 * d + s) / 3) ((3 * d + s) % 3) m) = _
  rw [if_neg (by omega), h1, h2]
theorem rd_stR (w : World) {n m : Int} (h : n ≤ 9223372036854775807) : RdSt w (fun _ => True) (.agg #[.int .i64 3, .int .i64 n, .int .i64 m, .int .i64 0, .int .i64 0, .int .i64 0, .slice none 0 0]) (stR n m) := ⟨_, rfl, h, RdL.nil_ _ _ _ _ _ (by decide)⟩
end Go.Proofs.YtdcmbdghnkgghaaDoor

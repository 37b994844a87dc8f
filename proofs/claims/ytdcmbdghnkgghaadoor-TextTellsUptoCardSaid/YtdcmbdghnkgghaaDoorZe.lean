/- Merged: C8 C8b C8c C8d C8e C8f. -/
import Derived.Test.YtdcmbdghnkgghaaDoorZd
import Derived.Test.YtdcmbdghnkgghaaDoorZb
import Derived.Test.YtdcmbdghnkgghaaDoorZc
import Derived.Test.YtdcmbdghnkgghaaDoorZa
namespace Go.Proofs.YtdcmbdghnkgghaaDoor
set_option linter.unusedVariables false
open Go Go.RowKit M
theorem shape_set {D : List (List Bs)} (h : Shape D) (d s : Nat) {b : Bs} (hb : b.length ≤ 8) : Shape (setA D d s b) := by
  unfold setA
  refine ⟨by rw [List.length_set]; exact h.1, fun r hr => ?_⟩
  rcases List.mem_or_eq_of_mem_set hr with hr | rfl
  · exact h.2 r hr
  · by_cases hd : d < 4
    · obtain ⟨r, _, h2, h3, h4⟩ := h.row hd
      rw [h4]
      refine ⟨by rw [List.length_set]; exact h2, fun c hc => ?_⟩
      rcases List.mem_or_eq_of_mem_set hc with hc | rfl
      · exact h3 c hc
      · exact hb
    · rw [List.set_eq_of_length_le (by rw [h.1]; omega)] at hr
      have : D.getD d [] = [] := by simp [List.getD, List.getElem?_eq_none (show D.length ≤ d by rw [h.1]; omega)]
      rw [this] at hr ⊢
      exact h.2 _ hr
end Go.Proofs.YtdcmbdghnkgghaaDoor

namespace Go.Proofs.YtdcmbdghnkgghaaDoor
set_option linter.unusedVariables false
open Go Go.RowKit M
theorem where_eq (n : Nat) : where_ n = whereN n := rfl
theorem whereN_lt {n : Nat} (h : n < 9) : whereN n < 4 ∧ n / 3 < 3 := by unfold whereN; split <;> omega
/-- An array's value, opened. -/
theorem RdA_open {w : World} {F : Fp} {v : Value} {a : Arr} (h : RdA w F v a) (hsh : Shape a.disks) : ∃ b0 o0 c0 Ai ci, v = .agg #[.slice (some ⟨b0, o0, none⟩) 4 c0, .slice Ai a.ints.length ci] ∧ RdBBB w (fun k => F k ∧ k < w.heap.size) (.slice (some ⟨b0, o0, none⟩) 4 c0) a.disks ∧ RdIs w (fun k => F k ∧ k < w.heap.size) (.slice Ai a.ints.length ci) a.ints ∧ 4 ≤ c0 ∧ c0 ≤ 9223372036854775807 := by
  obtain ⟨dv, iv, rfl, hD, hI⟩ := h
  obtain ⟨b0, o0, c0, rfl, _, _, hc0, hc1⟩ := disks_form hD hsh
  obtain ⟨Ai, ci, rfl, _, _⟩ := hI.shape
  exact ⟨b0, o0, c0, Ai, ci, rfl, okBBB.lt hD, okIs.lt hI, hc0, by unfold maxLen at hc1; omega⟩
theorem readA_out {D : List (List Bs)} {n : Int} (h : ¬ InB n) : readA D n = ([], 3) := by unfold readA; rw [if_pos h]
theorem readA_own {D : List (List Bs)} {k : Nat} (hk : k < 9) (h : (readC (cellAt D (whereN k) (k / 3)) (whereN k : Nat) (k / 3 : Nat)).2 = 0) : readA D (k : Nat) = ((readC (cellAt D (whereN k) (k / 3)) (whereN k : Nat) (k / 3 : Nat)).1, 0) := by
  unfold readA
  rw [if_neg (by simp; omega)]
  simp only [Int.toNat_natCast]
  rw [if_pos h]
theorem readA_lost {D : List (List Bs)} {k : Nat} (hk : k < 9) (h : (readC (cellAt D (whereN k) (k / 3)) (whereN k : Nat) (k / 3 : Nat)).2 ≠ 0) (h2 : (dataL (cellsA D (k / 3)) (k / 3)).2 ≠ 0) : readA D (k : Nat) = ([], (dataL (cellsA D (k / 3)) (k / 3)).2) := by
  unfold readA
  rw [if_neg (by simp; omega)]
  simp only [Int.toNat_natCast]
  rw [if_neg h, if_pos h2]
theorem readA_had {D : List (List Bs)} {k : Nat} (hk : k < 9) (h : (readC (cellAt D (whereN k) (k / 3)) (whereN k : Nat) (k / 3 : Nat)).2 ≠ 0) (h2 : (dataL (cellsA D (k / 3)) (k / 3)).2 = 0) : readA D (k : Nat) = ((dataL (cellsA D (k / 3)) (k / 3)).1.getD (whereN k) [], 0) := by
  unfold readA
  rw [if_neg (by simp; omega)]
  simp only [Int.toNat_natCast]
  rw [if_neg h, if_neg (by simpa using h2)]
theorem dataL_len {l : List Bs} {s : Nat} (h : (dataL l s).2 = 0) : (dataL l s).1.length = l.length := by
  unfold dataL at h ⊢
  split
  · rename_i hb; rw [if_pos hb] at h; simp at h
  · exact datTo_len _ _ _
/-- The first error of the blocks. -/
theorem blocksE_first {D : List (List Bs)} {k : Nat} (hk : k < 9) (h : ∀ j, j < k → (readA D (j : Nat)).2 = 0) (he : (readA D (k : Nat)).2 ≠ 0) : blocksE D = (readA D (k : Nat)).2 := by
  unfold blocksE
  have : ((List.range 9).map fun n => (readA D (n : Nat)).2).find? (fun e => e ≠ 0) = some (readA D (k : Nat)).2 := by
    rw [List.find?_eq_some_iff_getElem]
    refine ⟨by simpa using he, k, by simpa using hk, by simp, fun j hj => ?_⟩
    simp [h j hj]
  rw [this]
  rfl
theorem blocksE_none {D : List (List Bs)} (h : ∀ j, j < 9 → (readA D (j : Nat)).2 = 0) : blocksE D = 0 := by
  unfold blocksE
  have : ((List.range 9).map fun n => (readA D (n : Nat)).2).find? (fun e => e ≠ 0) = none := by
    rw [List.find?_eq_none]
    intro e he
    simp only [List.mem_map, List.mem_range] at he
    obtain ⟨j, hj, rfl⟩ := he
    simp [h j hj]
  rw [this]
  rfl
theorem blocksTo_next (D : List (List Bs)) (k : Nat) : blocksTo D (k + 1) = blocksTo D k ++ [(readA D (k : Nat)).1] := by unfold blocksTo; rw [List.range_succ]; simp
theorem blocksTo_len (D : List (List Bs)) (k : Nat) : (blocksTo D k).length = k := by simp [blocksTo]
theorem worstTo_next (D : List (List Bs)) (k : Nat) : worstTo D (k + 1) = max (worstTo D k) (badL (cellsA D k) k).length := by unfold worstTo; rw [List.range_succ]; simp
theorem badL_le (l : List Bs) (s : Nat) : (badL l s).length ≤ l.length := badTo_len l s _
end Go.Proofs.YtdcmbdghnkgghaaDoor

namespace Go.Proofs.YtdcmbdghnkgghaaDoor
set_option linter.unusedVariables false
open Go Go.RowKit M
theorem gone_out {a : Arr} {d : Int} (h : d < 0 ∨ 4 ≤ d) : goneA a d = (a, 6) := by unfold goneA; rw [if_pos h]
theorem gone_in {a : Arr} {d : Nat} (h : d < 4) : goneA a (d : Nat) = (⟨a.disks.set d [[], [], []], a.ints⟩, 0) := by unfold goneA; rw [if_neg (by omega)]; simp
/-- A disk's cells, so many of them none. -/
def goneTo (D : List (List Bs)) (d k : Nat) : List (List Bs) := (List.range k).foldl (fun D s => setA D d s []) D
theorem goneTo_next (D : List (List Bs)) (d k : Nat) : goneTo D d (k + 1) = setA (goneTo D d k) d k [] := by unfold goneTo; rw [List.range_succ]; simp
theorem goneTo_shape {D : List (List Bs)} (h : Shape D) (d k : Nat) : Shape (goneTo D d k) := by
  induction k with
  | zero => exact h
  | succ k ih => rw [goneTo_next]; exact shape_set ih d k (by simp)
theorem goneTo_all {D : List (List Bs)} (h : Shape D) {d : Nat} (hd : d < 4) : goneTo D d 3 = D.set d [[], [], []] := by
  obtain ⟨r, h1, h2, _, h4⟩ := h.row hd
  have hl : d < D.length := by rw [h.1]; exact hd
  match r, h2 with
  | [x, y, z], _ =>
    show setA (setA (setA D d 0 []) d 1 []) d 2 [] = _
    unfold setA
    simp only [List.getD, List.getElem?_set_self hl, Option.getD_some, List.set_set, h1]
    rfl
end Go.Proofs.YtdcmbdghnkgghaaDoor

namespace Go.Proofs.YtdcmbdghnkgghaaDoor
set_option linter.unusedVariables false
open Go Go.RowKit M
theorem xor_one : ∀ n, n < 256 → (n ^^^ 1 : Nat) = if n % 2 = 0 then n + 1 else n - 1 := by decide +kernel
theorem at8_turn {b : Bs} {n : Nat} (h : n < b.length) : ((b.getD n 0 ^^^ 1).toNat : Int) = if at8 b n % 2 = 0 then at8 b n + 1 else at8 b n - 1 := by
  unfold at8
  have hx := xor_one (b.getD n 0).toNat (b.getD n 0).toNat_lt
  rw [show (b.getD n 0 ^^^ 1).toNat = (b.getD n 0).toNat ^^^ 1 by rw [UInt8.toNat_xor]; rfl, hx]
  split <;> split <;> omega
theorem rot_no {a : Arr} {d s n : Int} (h : thereB d s = false ∨ n < 0 ∨ ((cellAt a.disks d.toNat s.toNat).length : Int) ≤ n) : rotA a d s n = (a, 6) := by unfold rotA; rw [if_pos h]
theorem rot_yes {a : Arr} {d s n : Nat} (hd : d < 4) (hs : s < 3) (hn : n < (cellAt a.disks d s).length) : rotA a (d : Nat) (s : Nat) (n : Nat) = (⟨setA a.disks d s ((cellAt a.disks d s).set n ((cellAt a.disks d s).getD n 0 ^^^ 1)), a.ints⟩, 0) := by
  unfold rotA
  rw [if_neg]
  · simp
  · simp only [Int.toNat_natCast, not_or]
    refine ⟨by rw [thereB_iff.2 ⟨by omega, by omega, by omega, by omega⟩]; decide, by omega, by omega⟩
end Go.Proofs.YtdcmbdghnkgghaaDoor

namespace Go.Proofs.YtdcmbdghnkgghaaDoor
set_option linter.unusedVariables false
open Go Go.RowKit M
def rowN (d k : Nat) : List Bs := (List.range k).map fun s => cellB d s zero4
theorem rowN_next (d k : Nat) : rowN d k ++ [cellB d k zero4] = rowN d (k + 1) := by unfold rowN; rw [List.range_succ]; simp
theorem rowN_len (d k : Nat) : (rowN d k).length = k := by simp [rowN]
def disksN (k : Nat) : List (List Bs) := (List.range k).map fun d => rowN d 3
theorem disksN_next (k : Nat) : disksN k ++ [rowN k 3] = disksN (k + 1) := by unfold disksN; rw [List.range_succ]; simp
theorem disksN_len (k : Nat) : (disksN k).length = k := by simp [disksN]
theorem disksN_all : disksN 4 = newD := rfl
end Go.Proofs.YtdcmbdghnkgghaaDoor

namespace Go.Proofs.YtdcmbdghnkgghaaDoor
set_option linter.unusedVariables false
open Go Go.RowKit M
/-- So many writes of an intent. -/
def wrTo (a : Arr) (i : Int × List Bs) (m : Nat) : Arr := ⟨putTo a.disks i.1.toNat i.2 (min (m - 1) 4), if 5 < m then [] else if 0 < m then [i] else a.ints⟩
theorem wrTo_zero (a : Arr) (i : Int × List Bs) : wrTo a i 0 = a := rfl
theorem wrTo_one (a : Arr) (i : Int × List Bs) : wrTo a i 1 = ⟨a.disks, [i]⟩ := rfl
theorem wrTo_six (a : Arr) (i : Int × List Bs) : wrTo a i 6 = ⟨(wrTo a i 5).disks, []⟩ := rfl
theorem wrTo_cell (a : Arr) (i : Int × List Bs) {m : Nat} (h1 : 1 ≤ m) (h4 : m ≤ 4) : wrTo a i (m + 1) = ⟨setA (wrTo a i m).disks (m - 1) i.1.toNat (i.2.getD (m - 1) []), (wrTo a i m).ints⟩ := by
  have e1 : ¬ 5 < m + 1 := by omega
  have e2 : ¬ 5 < m := by omega
  have e3 : 0 < m + 1 := by omega
  have e4 : 0 < m := by omega
  unfold wrTo
  rw [show min (m + 1 - 1) 4 = (m - 1) + 1 by omega, show min (m - 1) 4 = m - 1 by omega, putTo_next, if_neg e1, if_neg e2, if_pos e3, if_pos e4]
theorem wrTo_all (a : Arr) (i : Int × List Bs) (n : Int) {m : Nat} (h : (m : Int) = min (max n 0) 6) : wrTo a i m = writeR a i n := by
  unfold wrTo writeR writeK cellsR
  rw [show min (m - 1) 4 = (min (max (n - 1) 0) 4).toNat by omega]
  by_cases h5 : 5 < n
  · rw [if_pos (by omega), if_pos h5]
  · rw [if_neg (by omega), if_neg h5]
    by_cases h0 : 0 < n
    · rw [if_pos (by omega), if_pos h0]
    · rw [if_neg (by omega), if_neg h0]
theorem wrTo_shape {a : Arr} (h : Shape a.disks) {i : Int × List Bs} (hl : ∀ c ∈ i.2, c.length ≤ 8) (m : Nat) : Shape (wrTo a i m).disks := putTo_shape h _ hl _
/-- An intent. -/
def RdI : Rel (Int × List Bs) := fun w F v i => ∃ cv, v = .agg #[.int .i64 i.1, cv] ∧ RdBB w F cv i.2
/-- Three boxes. -/
theorem three_boxes (w : World) (v0 v1 i0 i1 : Value) (T T' : TypeId) : ∃ w1, (((w.alloc (.cells #[v0, v1] T)).alloc (.cells #[i0, i1] T')).alloc (.cells #[.slice none 0 0, .slice none 0 0] T)) = w1 ∧ BoxAt w1 w.heap.size T [v0, v1] ∧ BoxAt w1 (w.heap.size + 1) T' [i0, i1] ∧ BoxAt w1 (w.heap.size + 1 + 1) T [.slice none 0 0, .slice none 0 0] ∧ Below w.heap.size w w1 ∧ w1.heap.size = w.heap.size + 3 := by
  have h0 := boxAt_new w T [v0, v1]
  have h1 := below_alloc w (.cells #[v0, v1] T)
  have h2 := boxAt_new (w.alloc (.cells #[v0, v1] T)) T' [i0, i1]
  have h3 := below_alloc (w.alloc (.cells #[v0, v1] T)) (.cells #[i0, i1] T')
  have h4 := boxAt_new ((w.alloc (.cells #[v0, v1] T)).alloc (.cells #[i0, i1] T')) T [.slice none 0 0, .slice none 0 0]
  have h5 := below_alloc ((w.alloc (.cells #[v0, v1] T)).alloc (.cells #[i0, i1] T')) (.cells #[.slice none 0 0, .slice none 0 0] T)
  rw [alloc_size] at h2
  rw [alloc_size, alloc_size] at h4
  refine ⟨_, rfl, (h0.grow h3).grow h5, h2.grow h5, h4, (h1.trans (h3.mono h1.size)).trans (h5.mono (Nat.le_trans h1.size h3.size)), by rw [alloc_size, alloc_size, alloc_size]⟩
theorem RdA.parts {w : World} {F : Fp} {dv iv : Value} {a : Arr} (h : RdA w F (.agg #[dv, iv]) a) : RdBBB w F dv a.disks ∧ RdIs w F iv a.ints := by
  obtain ⟨dv', iv', hag, h1, h2⟩ := h
  injection hag with hag
  simp only [Array.mk.injEq, List.cons.injEq, and_true] at hag
  obtain ⟨rfl, rfl⟩ := hag
  exact ⟨h1, h2⟩
theorem wrap_nat {j : Nat} (h : j < 9223372036854775808) : IntKind.i64.wrap ((j : Nat) : Int) = (j : Int) := by
  rw [IntKind.wrap_i64]
  omega
def Ra (F : Fp) (a : Arr) : Know := fun w v => RdA w F v a
theorem mRa (F : Fp) (a : Arr) : Mono (Ra F a) := fun _ _ _ hb h => h.grow hb
end Go.Proofs.YtdcmbdghnkgghaaDoor

/- Plain functions: blocks taken together (xor), the document's way of it, bit by bit; places; and their laws. No program in sight. -/
import Derived.Test.YtlbnkoahkfhimaaPure1
namespace Go.Proofs.Ytlbnkoahkfhimaa.M
set_option linter.unusedVariables false

/-! ### xor -/
def xorTwo (a b : Bs) : Bs := [a.getD 0 0 ^^^ b.getD 0 0, a.getD 1 0 ^^^ b.getD 1 0, a.getD 2 0 ^^^ b.getD 2 0, a.getD 3 0 ^^^ b.getD 3 0]
def zero4 : Bs := [0, 0, 0, 0]
def xorAll (l : List Bs) : Bs := l.foldl xorTwo zero4
/-- All are blocks. -/
def Blocks4 (l : List Bs) : Prop := ∀ b ∈ l, b.length = 4

theorem len4 {b : Bs} (h : b.length = 4) : ∃ x y z t, b = [x, y, z, t] := by
  match b, h with
  | [x, y, z, t], _ => exact ⟨x, y, z, t, rfl⟩
theorem xorTwo_length (a b : Bs) : (xorTwo a b).length = 4 := rfl
theorem xorTwo_comm (a b : Bs) : xorTwo a b = xorTwo b a := by
  unfold xorTwo
  rw [UInt8.xor_comm, UInt8.xor_comm (a.getD 1 0), UInt8.xor_comm (a.getD 2 0), UInt8.xor_comm (a.getD 3 0)]
theorem xorTwo_assoc (a b c : Bs) : xorTwo (xorTwo a b) c = xorTwo a (xorTwo b c) := by
  simp [xorTwo, UInt8.xor_assoc]
theorem xorTwo_zero {a : Bs} (h : a.length = 4) : xorTwo a zero4 = a := by
  obtain ⟨x, y, z, t, rfl⟩ := len4 h
  simp [xorTwo, zero4]
theorem zero_xorTwo {a : Bs} (h : a.length = 4) : xorTwo zero4 a = a := by rw [xorTwo_comm, xorTwo_zero h]
theorem xorTwo_self (a : Bs) : xorTwo a a = zero4 := by simp [xorTwo, zero4]
theorem xorTwo_twice {a b : Bs} (h : a.length = 4) : xorTwo (xorTwo a b) b = a := by rw [xorTwo_assoc, xorTwo_self, xorTwo_zero h]
theorem foldX_length (l : List Bs) (a : Bs) (h : a.length = 4) : (l.foldl xorTwo a).length = 4 := by
  induction l generalizing a with
  | nil => exact h
  | cons b l ih => exact ih _ (xorTwo_length _ _)
theorem xorAll_length (l : List Bs) : (xorAll l).length = 4 := foldX_length l zero4 rfl
theorem foldX (l : List Bs) (a : Bs) (h : a.length = 4) : l.foldl xorTwo a = xorTwo a (xorAll l) := by
  induction l generalizing a with
  | nil => exact (xorTwo_zero h).symm
  | cons b l ih =>
    have h1 : (b :: l).foldl xorTwo a = l.foldl xorTwo (xorTwo a b) := rfl
    have h2 : xorAll (b :: l) = l.foldl xorTwo (xorTwo zero4 b) := rfl
    rw [h1, h2, ih _ (xorTwo_length _ _), ih _ (xorTwo_length _ _), xorTwo_assoc a b, xorTwo_assoc zero4 b, zero_xorTwo (xorTwo_length _ _)]
theorem xorAll_nil : xorAll [] = zero4 := rfl
theorem xorAll_append (l m : List Bs) : xorAll (l ++ m) = xorTwo (xorAll l) (xorAll m) := by
  unfold xorAll
  rw [List.foldl_append]
  exact foldX m _ (foldX_length l zero4 rfl)
theorem xorAll_one {b : Bs} (h : b.length = 4) : xorAll [b] = b := zero_xorTwo h
theorem xorAll_cons {b : Bs} (l : List Bs) (h : b.length = 4) : xorAll (b :: l) = xorTwo b (xorAll l) := by
  have := xorAll_append [b] l
  rwa [xorAll_one h] at this
theorem xorAll_take {l : List Bs} {k : Nat} (h : k < l.length) : xorAll (l.take (k + 1)) = xorTwo (xorAll (l.take k)) l[k] := by
  unfold xorAll
  rw [List.take_succ_eq_append_getElem h, List.foldl_append]
  rfl
theorem xorTwo_left_cancel {a b : Bs} (h : b.length = 4) : xorTwo a (xorTwo a b) = b := by rw [← xorTwo_assoc, xorTwo_self, zero_xorTwo h]

/-- Twice is not at all. -/
theorem xorAll_twice {l : List Bs} {a : Bs} (h : a.length = 4) : xorAll ((a :: l) ++ [a]) = xorAll l := by
  rw [xorAll_append, xorAll_one h, xorAll_cons l h, xorTwo_comm, xorTwo_left_cancel (xorAll_length l)]
/-- Blocks, and what they are together. -/
theorem xorAll_self (l : List Bs) : xorAll (l ++ [xorAll l]) = zero4 := by
  rw [xorAll_append, xorAll_one (xorAll_length l), xorTwo_self]
/-- Any one is what the others are. -/
theorem xorAll_eraseIdx {l : List Bs} {k : Nat} (hl : Blocks4 l) (hk : k < l.length) : xorTwo (xorAll (l.eraseIdx k)) l[k] = xorAll l := by
  induction l generalizing k with
  | nil => simp at hk
  | cons b l ih =>
    have hb : b.length = 4 := hl b List.mem_cons_self
    cases k with
    | zero =>
      simp only [List.eraseIdx_cons_zero, List.getElem_cons_zero]
      rw [xorAll_cons l hb, xorTwo_comm]
    | succ k =>
      simp only [List.eraseIdx_cons_succ, List.getElem_cons_succ]
      rw [xorAll_cons _ hb, xorAll_cons _ hb, xorTwo_assoc, ih (fun x hx => hl x (List.mem_cons_of_mem _ hx)) (by simpa using hk)]
theorem xorAll_reverse {l : List Bs} (hl : Blocks4 l) : xorAll l.reverse = xorAll l := by
  induction l with
  | nil => rfl
  | cons b l ih =>
    have hb : b.length = 4 := hl b List.mem_cons_self
    rw [List.reverse_cons, xorAll_append, xorAll_one hb, xorAll_cons _ hb, ih fun x hx => hl x (List.mem_cons_of_mem _ hx), xorTwo_comm]
theorem xorTwo_right_inj {a b c : Bs} (ha : a.length = 4) (hb : b.length = 4) (h : xorTwo a c = xorTwo b c) : a = b := by
  rw [← xorTwo_twice (b := c) ha, h, xorTwo_twice hb]
/-- What is none is told by all others. -/
theorem xor_others {l : List Bs} {k : Nat} (hl : Blocks4 l) (hk : k < l.length) (hz : xorAll l = zero4) : xorAll (l.eraseIdx k) = l[k] := by
  have h := xorAll_eraseIdx hl hk
  rw [hz] at h
  have hlk : l[k].length = 4 := hl _ (List.getElem_mem hk)
  apply xorTwo_right_inj (xorAll_length _) hlk (c := l[k])
  rw [h, xorTwo_self]

/-- All but one, the last first. -/
def othersTo (l : List Bs) (n j : Nat) : List Bs := ((l.take j).eraseIdx n).reverse
theorem othersTo_zero (l : List Bs) (n : Nat) : othersTo l n 0 = [] := by simp [othersTo]
theorem othersTo_same (l : List Bs) (n : Nat) : othersTo l n (n + 1) = othersTo l n n := by
  unfold othersTo
  congr 1
  apply List.ext_getElem?
  intro i
  rw [List.getElem?_eraseIdx, List.getElem?_eraseIdx]
  by_cases h : i < n
  · rw [if_pos h, if_pos h, List.getElem?_take, List.getElem?_take, if_pos (by omega), if_pos h]
  · rw [if_neg h, if_neg h, List.getElem?_take, List.getElem?_take, if_neg (by omega), if_neg (by omega)]
theorem othersTo_next {l : List Bs} {n j : Nat} (hj : j < l.length) (hne : j ≠ n) : othersTo l n (j + 1) = l[j] :: othersTo l n j := by
  unfold othersTo
  rw [List.take_succ_eq_append_getElem hj]
  by_cases h : n < j
  · rw [List.eraseIdx_append_of_lt_length (by simp; omega), List.reverse_append]; rfl
  · rw [List.eraseIdx_append_of_length_le (by simp; omega), List.eraseIdx_of_length_le (l := [l[j]]) (by simp; omega), List.eraseIdx_of_length_le (l := l.take j) (by simp; omega), List.reverse_append]; rfl
theorem othersTo_all (l : List Bs) (n : Nat) : othersTo l n l.length = (l.eraseIdx n).reverse := by unfold othersTo; rw [List.take_length]
theorem othersTo_len (l : List Bs) (n j : Nat) (h : j ≤ l.length) : (othersTo l n j).length ≤ j := by
  unfold othersTo
  rw [List.length_reverse]
  have := List.length_eraseIdx_le (l.take j) n
  simp at this
  omega
theorem othersTo_blocks {l : List Bs} (n j : Nat) (h : Blocks4 l) : Blocks4 (othersTo l n j) := fun b hb => by
  unfold othersTo at hb
  rw [List.mem_reverse] at hb
  exact h b (List.mem_of_mem_take (List.mem_of_mem_eraseIdx hb))
theorem xorBack {l : List Bs} {n : Nat} (hl : Blocks4 l) (hn : n < l.length) : xorAll (othersTo (l ++ [xorAll l]) n (l.length + 1)) = l[n] := by
  have hb : Blocks4 (l ++ [xorAll l]) := fun b hb => by
    simp at hb
    rcases hb with hb | rfl
    · exact hl b hb
    · exact xorAll_length l
  have e : l.length + 1 = (l ++ [xorAll l]).length := by simp
  rw [e, othersTo_all, xorAll_reverse (fun b hm => hb b (List.mem_of_mem_eraseIdx hm)), xor_others hb (by simp; omega) (xorAll_self l), List.getElem_append_left hn]
/-- What the loop of Two has behind k rounds. -/
def xorTo (a b : Bs) (k : Nat) : Bs := (xorTwo a b).take k ++ zero4.drop k
theorem xorTo_set (a b : Bs) {k : Nat} (hk : k < 4) : (xorTo a b k).set k (a.getD k 0 ^^^ b.getD k 0) = xorTo a b (k + 1) := by
  match k, hk with
  | 0, _ => rfl
  | 1, _ => rfl
  | 2, _ => rfl
  | 3, _ => rfl
theorem xorTo_length (a b : Bs) {k : Nat} (hk : k ≤ 4) : (xorTo a b k).length = 4 := by
  unfold xorTo
  simp [xorTwo_length, zero4]
  omega
theorem xorTo_all (a b : Bs) : xorTo a b 4 = xorTwo a b := rfl
/-! ### bit by bit -/
/-- Of how many blocks byte i has bit k. -/
def cntB (l : List Bs) (i k : Nat) : Nat := (l.filter fun b => decide ((b.getD i 0).toNat / 2 ^ k % 2 = 1)).length
def refByte (l : List Bs) (i : Nat) : Nat → Nat
  | 0 => 0
  | k + 1 => refByte l i k + 2 ^ k * (cntB l i k % 2)
theorem cntB_take {l : List Bs} {i k m : Nat} (h : m < l.length) : cntB (l.take (m + 1)) i k = cntB (l.take m) i k + if (l[m].getD i 0).toNat / 2 ^ k % 2 = 1 then 1 else 0 := by
  unfold cntB
  rw [List.take_succ_eq_append_getElem h, List.filter_append, List.length_append]
  congr 1
  by_cases hc : (l[m].getD i 0).toNat / 2 ^ k % 2 = 1
  · rw [if_pos hc, List.filter_cons, if_pos (decide_eq_true hc)]; rfl
  · rw [if_neg hc, List.filter_cons, if_neg (by simpa using hc)]; rfl
theorem cntB_le (l : List Bs) (i k : Nat) : cntB l i k ≤ l.length := List.length_filter_le _ _
theorem bit_xor (a b : UInt8) (k : Nat) : (a ^^^ b).toNat / 2 ^ k % 2 = (a.toNat / 2 ^ k % 2 + b.toNat / 2 ^ k % 2) % 2 := by
  have h1 := Nat.testBit_xor a.toNat b.toNat k
  rw [← UInt8.toNat_xor] at h1
  simp only [Nat.testBit_eq_decide_div_mod_eq] at h1
  have ha := Nat.mod_two_eq_zero_or_one (a.toNat / 2 ^ k)
  have hb := Nat.mod_two_eq_zero_or_one (b.toNat / 2 ^ k)
  have hc := Nat.mod_two_eq_zero_or_one ((a ^^^ b).toNat / 2 ^ k)
  generalize a.toNat / 2 ^ k % 2 = x at *
  generalize b.toNat / 2 ^ k % 2 = y at *
  generalize (a ^^^ b).toNat / 2 ^ k % 2 = z at *
  rcases ha with rfl | rfl <;> rcases hb with rfl | rfl <;> rcases hc with rfl | rfl <;> first | rfl | (exact absurd h1 (by decide))
theorem xorTwo_get {a b : Bs} {i : Nat} (hi : i < 4) : (xorTwo a b).getD i 0 = a.getD i 0 ^^^ b.getD i 0 := by
  match i, hi with
  | 0, _ => rfl
  | 1, _ => rfl
  | 2, _ => rfl
  | 3, _ => rfl
theorem zero4_get (i : Nat) : zero4.getD i 0 = 0 := by
  match i with
  | 0 => rfl
  | 1 => rfl
  | 2 => rfl
  | 3 => rfl
  | i + 4 => rfl
theorem cntB_xor (l : List Bs) (i k : Nat) (hi : i < 4) : cntB l i k % 2 = ((xorAll l).getD i 0).toNat / 2 ^ k % 2 := by
  have : ∀ m, m ≤ l.length → cntB (l.take m) i k % 2 = ((xorAll (l.take m)).getD i 0).toNat / 2 ^ k % 2 := by
    intro m
    induction m with
    | zero =>
      intro _
      simp only [List.take_zero, xorAll_nil, zero4_get]
      simp [cntB]
    | succ m ih =>
      intro hm
      rw [cntB_take (by omega), xorAll_take (by omega), xorTwo_get hi, bit_xor, ← ih (by omega)]
      have hb := Nat.mod_two_eq_zero_or_one ((l[m].getD i 0).toNat / 2 ^ k)
      rcases hb with hb | hb <;> rw [hb] <;> simp <;> omega
  have := this l.length (Nat.le_refl _)
  rwa [List.take_length] at this
def bitsOf (n : Nat) : Nat → Nat
  | 0 => 0
  | k + 1 => bitsOf n k + 2 ^ k * (n / 2 ^ k % 2)
theorem bitsOf_all : ∀ n, n < 256 → bitsOf n 8 = n := by decide +kernel
theorem refByte_bits (l : List Bs) (i m : Nat) (hi : i < 4) : refByte l i m = bitsOf ((xorAll l).getD i 0).toNat m := by
  induction m with
  | zero => rfl
  | succ m ih => unfold refByte bitsOf; rw [ih, cntB_xor l i m hi]
theorem refByte_all (l : List Bs) (i : Nat) (hi : i < 4) : refByte l i 8 = ((xorAll l).getD i 0).toNat := by
  rw [refByte_bits l i 8 hi, bitsOf_all _ (UInt8.toNat_lt _)]
theorem refByte_lt (l : List Bs) (i : Nat) (k : Nat) : refByte l i k < 2 ^ k := by
  induction k with
  | zero => simp [refByte]
  | succ k ih =>
    unfold refByte
    have h2 : 2 ^ (k + 1) = 2 ^ k + 2 ^ k := by rw [Nat.pow_succ]; omega
    rcases Nat.mod_two_eq_zero_or_one (cntB l i k) with h | h <;> rw [h] <;> simp <;> omega
end Go.Proofs.Ytlbnkoahkfhimaa.M

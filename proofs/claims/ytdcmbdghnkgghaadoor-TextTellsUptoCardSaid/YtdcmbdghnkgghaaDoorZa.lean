/- Merged: Pure1 Pure2 Pure3 Pure5 Pure6 PureA PureB PureC PureD PureE. -/
namespace Go.Proofs.YtdcmbdghnkgghaaDoor.M
set_option linter.unusedVariables false

abbrev Bs := List UInt8

/-! ### sums -/
def stepS (s : Nat) (c : UInt8) : Nat := (s * 151 + c.toNat + 1) % 65521
def sumOf (b : Bs) : Nat := b.foldl stepS 13
def sealB (b : Bs) : Bs := b ++ [UInt8.ofNat (sumOf b / 256), UInt8.ofNat (sumOf b)]
def sealedB (b : Bs) : Bool := decide (2 ≤ b.length) && (sealB (b.take (b.length - 2)) == b)

theorem stepS_lt (s : Nat) (c : UInt8) : stepS s c < 65521 := Nat.mod_lt _ (by decide)
theorem foldS_lt (b : Bs) (s : Nat) (h : s < 65521) : b.foldl stepS s < 65521 := by
  induction b generalizing s with
  | nil => exact h
  | cons c b ih => exact ih _ (stepS_lt s c)
theorem sumOf_lt (b : Bs) : sumOf b < 65521 := foldS_lt b 13 (by decide)

theorem stepS_inj {s t : Nat} {c : UInt8} (hs : s < 65521) (ht : t < 65521) (h : stepS s c = stepS t c) : s = t := by
  unfold stepS at h
  omega
theorem stepS_inj2 {s : Nat} {c d : UInt8} (h : stepS s c = stepS s d) : c = d := by
  unfold stepS at h
  have h1 := c.toNat_lt
  have h2 := d.toNat_lt
  apply UInt8.toNat_inj.1
  omega
theorem foldS_inj (b : Bs) {s t : Nat} (hs : s < 65521) (ht : t < 65521) (h : b.foldl stepS s = b.foldl stepS t) : s = t := by
  induction b generalizing s t with
  | nil => exact h
  | cons c b ih => exact stepS_inj hs ht (ih (stepS_lt _ _) (stepS_lt _ _) h)
/-- One byte turned turns the sum. -/
theorem foldS_set (b : Bs) (s i : Nat) (c : UInt8) (hs : s < 65521) (hi : i < b.length) (h : (b.set i c).foldl stepS s = b.foldl stepS s) : b[i] = c := by
  induction b generalizing s i with
  | nil => simp at hi
  | cons d b ih =>
    cases i with
    | zero =>
      simp only [List.set_cons_zero, List.foldl_cons] at h
      exact (stepS_inj2 (foldS_inj b (stepS_lt _ _) (stepS_lt _ _) h)).symm
    | succ i =>
      simp only [List.set_cons_succ, List.foldl_cons] at h
      simpa using ih (stepS s d) i (stepS_lt _ _) (by simpa using hi) h
theorem sumOf_set {b : Bs} {i : Nat} {c : UInt8} (hi : i < b.length) (h : sumOf (b.set i c) = sumOf b) : b[i] = c := foldS_set b 13 i c (by decide) hi h

theorem ofNat_two {m n : Nat} (hm : m < 65536) (hn : n < 65536) (h1 : UInt8.ofNat (m / 256) = UInt8.ofNat (n / 256)) (h2 : UInt8.ofNat m = UInt8.ofNat n) : m = n := by
  have e1 := congrArg UInt8.toNat h1
  have e2 := congrArg UInt8.toNat h2
  simp only [UInt8.toNat_ofNat'] at e1 e2
  omega

theorem sealB_length (b : Bs) : (sealB b).length = b.length + 2 := by simp [sealB]
theorem sealedB_sealB (b : Bs) : sealedB (sealB b) = true := by
  unfold sealedB
  simp [sealB_length]
  simp [sealB]
theorem sealB_take (b : Bs) : (sealB b).take b.length = b := by simp [sealB]
theorem sealedB_form {b : Bs} (h : sealedB b = true) : ∃ a, b = sealB a ∧ a.length + 2 = b.length := by
  unfold sealedB at h
  simp at h
  exact ⟨b.take (b.length - 2), h.2.symm, by simp; omega⟩
theorem sealB_inj {a b : Bs} (h : sealB a = sealB b) : a = b := by
  have hl : a.length = b.length := by have := congrArg List.length h; simpa [sealB_length] using this
  have := congrArg (List.take a.length) h
  rw [sealB_take, hl, sealB_take] at this
  exact this
/-- ONE BYTE TURNED IS FOUND. -/
theorem sealedB_set {b : Bs} {i : Nat} {c : UInt8} (hi : i < (sealB b).length) (hne : (sealB b)[i] ≠ c) : sealedB ((sealB b).set i c) = false := by
  cases hs : sealedB ((sealB b).set i c) with
  | false => rfl
  | true =>
    exfalso
    obtain ⟨a, ha, hl⟩ := sealedB_form hs
    simp [sealB_length] at hl
    rw [sealB_length] at hi
    by_cases hb : i < b.length
    · have h1 : (sealB b).set i c = b.set i c ++ [UInt8.ofNat (sumOf b / 256), UInt8.ofNat (sumOf b)] := by
        unfold sealB; rw [List.set_append_left _ _ hb]
      rw [h1] at ha
      unfold sealB at ha
      obtain ⟨e1, e2⟩ := List.append_inj ha (by simp [hl])
      simp at e2
      have e3 := ofNat_two (by have := sumOf_lt b; omega) (by have := sumOf_lt a; omega) e2.1 e2.2
      rw [← e1] at e3
      have e4 := sumOf_set hb e3.symm
      apply hne
      rw [← e4]
      simp [sealB, List.getElem_append_left hb]
    · have h1 : (sealB b).set i c = b ++ [UInt8.ofNat (sumOf b / 256), UInt8.ofNat (sumOf b)].set (i - b.length) c := by
        unfold sealB; rw [List.set_append_right _ _ (by omega)]
      rw [h1] at ha
      unfold sealB at ha
      obtain ⟨e1, e2⟩ := List.append_inj ha (by simp [hl])
      subst e1
      apply hne
      have hi' : i - b.length < ([UInt8.ofNat (sumOf b / 256), UInt8.ofNat (sumOf b)]).length := by simp; omega
      have e3 : ([UInt8.ofNat (sumOf b / 256), UInt8.ofNat (sumOf b)].set (i - b.length) c)[i - b.length]'(by simpa using hi') = c := by simp
      have e4 : (sealB b)[i]'(by rw [sealB_length]; omega) = ([UInt8.ofNat (sumOf b / 256), UInt8.ofNat (sumOf b)])[i - b.length]'hi' := by
        simp only [sealB]; rw [List.getElem_append_right (by omega)]
      rw [e4, ← e3]
      congr 1
      exact e2.symm

/-- A byte, as a number, out of a list. -/
def at8 (b : Bs) (j : Nat) : Int := ((b.getD j 0).toNat : Int)
theorem at8_lo (b : Bs) (j : Nat) : 0 ≤ at8 b j := by unfold at8; omega
theorem at8_hi (b : Bs) (j : Nat) : at8 b j ≤ 255 := by unfold at8; have := (b.getD j 0).toNat_lt; omega
theorem at8_get {b : Bs} {j : Nat} (h : j < b.length) : at8 b j = (b[j].toNat : Int) := by unfold at8; simp [h]
theorem at8_ext {a b : Bs} (hl : a.length = b.length) (h : ∀ j, j < a.length → at8 a j = at8 b j) : a = b := by
  apply List.ext_getElem hl
  intro i h1 h2
  have := h i h1
  rw [at8_get h1, at8_get h2] at this
  exact UInt8.toNat_inj.1 (by omega)
def sumI (b : Bs) (k : Nat) : Int := ((sumOf (b.take k) : Nat) : Int)
theorem sumI_zero (b : Bs) : sumI b 0 = 13 := rfl
theorem sumI_succ {b : Bs} {k : Nat} (h : k < b.length) : sumI b (k + 1) = (sumI b k * 151 + at8 b k + 1) % 65521 := by
  unfold sumI sumOf
  rw [List.take_succ_eq_append_getElem h, List.foldl_append, at8_get h]
  simp only [List.foldl_cons, List.foldl_nil, stepS]
  omega
theorem sumI_lo (b : Bs) (k : Nat) : 0 ≤ sumI b k := by unfold sumI; omega
theorem sumI_hi (b : Bs) (k : Nat) : sumI b k < 65521 := by unfold sumI; have := sumOf_lt (b.take k); omega
theorem sumI_all (b : Bs) : sumI b b.length = ((sumOf b : Nat) : Int) := by unfold sumI; rw [List.take_length]
theorem sealedB_at {b : Bs} (h : 2 ≤ b.length) : sealedB b = (at8 b (b.length - 2) == ((sumOf (b.take (b.length - 2)) / 256 : Nat) : Int) && at8 b (b.length - 1) == ((sumOf (b.take (b.length - 2)) % 256 : Nat) : Int)) := by
  have hlt := sumOf_lt (b.take (b.length - 2))
  generalize hs : sumOf (b.take (b.length - 2)) = s at *
  unfold sealedB sealB
  rw [hs]
  have hb : b = b.take (b.length - 2) ++ [b[b.length - 2], b[b.length - 1]] := by
    apply List.ext_getElem (by simp; omega)
    intro i h1 h2
    by_cases hi : i < b.length - 2
    · rw [List.getElem_append_left (by simp; omega)]; simp
    · rw [List.getElem_append_right (by simp; omega)]
      simp only [List.length_take]
      by_cases h3 : i = b.length - 2
      · subst h3; simp
      · have h4 : i = b.length - 1 := by omega
        subst h4
        have e : b.length - 1 - (b.length - 2) = 1 := by omega
        simp [e]
  rw [at8_get (show b.length - 2 < b.length by omega), at8_get (show b.length - 1 < b.length by omega)]
  rw [Bool.eq_iff_iff]
  simp only [Bool.and_eq_true, decide_eq_true_eq, beq_iff_eq]
  constructor
  · rintro ⟨_, h1⟩
    conv at h1 => rhs; rw [hb]
    have h2 := List.append_cancel_left h1
    simp only [List.cons.injEq, and_true] at h2
    rw [← h2.1, ← h2.2]
    refine ⟨?_, ?_⟩
    · rw [UInt8.toNat_ofNat']; omega
    · rw [UInt8.toNat_ofNat']
  · rintro ⟨h1, h2⟩
    refine ⟨h, ?_⟩
    conv => rhs; rw [hb]
    congr 1
    have e1 : UInt8.ofNat (s / 256) = b[b.length - 2] := by apply UInt8.toNat_inj.1; simp only [UInt8.toNat_ofNat']; omega
    have e2 : UInt8.ofNat s = b[b.length - 1] := by apply UInt8.toNat_inj.1; simp only [UInt8.toNat_ofNat']; omega
    rw [e1, e2]
end Go.Proofs.YtdcmbdghnkgghaaDoor.M

namespace Go.Proofs.YtdcmbdghnkgghaaDoor.M
set_option linter.unusedVariables false

/-! ### xor -/
def xorTwo (a b : Bs) : Bs := [a.getD 0 0 ^^^ b.getD 0 0, a.getD 1 0 ^^^ b.getD 1 0, a.getD 2 0 ^^^ b.getD 2 0, a.getD 3 0 ^^^ b.getD 3 0]
def zero4 : Bs := [0, 0, 0, 0]
def xorAll (l : List Bs) : Bs := l.foldl xorTwo zero4
/-- All are blocks. -/
def Blocks4 (l : List Bs) : Prop := ∀ b ∈ l, b.length = 4

theorem len4 {b : Bs} (h : b.length = 4) : ∃ x y z t, b = [x, y, z, t] := by
  match b, h with
  | [x, y, z, t], _ => exact ⟨x, y, z, t, rfl⟩
theorem xorTwo_length (a b : Bs) : (xorTwo a b).length = 4 := rfl
theorem xorTwo_comm (a b : Bs) : xorTwo a b = xorTwo b a := by
  unfold xorTwo
  rw [UInt8.xor_comm, UInt8.xor_comm (a.getD 1 0), UInt8.xor_comm (a.getD 2 0), UInt8.xor_comm (a.getD 3 0)]
theorem xorTwo_assoc (a b c : Bs) : xorTwo (xorTwo a b) c = xorTwo a (xorTwo b c) := by
  simp [xorTwo, UInt8.xor_assoc]
theorem xorTwo_zero {a : Bs} (h : a.length = 4) : xorTwo a zero4 = a := by
  obtain ⟨x, y, z, t, rfl⟩ := len4 h
  simp [xorTwo, zero4]
theorem zero_xorTwo {a : Bs} (h : a.length = 4) : xorTwo zero4 a = a := by rw [xorTwo_comm, xorTwo_zero h]
theorem xorTwo_self (a : Bs) : xorTwo a a = zero4 := by simp [xorTwo, zero4]
theorem xorTwo_twice {a b : Bs} (h : a.length = 4) : xorTwo (xorTwo a b) b = a := by rw [xorTwo_assoc, xorTwo_self, xorTwo_zero h]
theorem foldX_length (l : List Bs) (a : Bs) (h : a.length = 4) : (l.foldl xorTwo a).length = 4 := by
  induction l generalizing a with
  | nil => exact h
  | cons b l ih => exact ih _ (xorTwo_length _ _)
theorem xorAll_length (l : List Bs) : (xorAll l).length = 4 := foldX_length l zero4 rfl
theorem foldX (l : List Bs) (a : Bs) (h : a.length = 4) : l.foldl xorTwo a = xorTwo a (xorAll l) := by
  induction l generalizing a with
  | nil => exact (xorTwo_zero h).symm
  | cons b l ih =>
    have h1 : (b :: l).foldl xorTwo a = l.foldl xorTwo (xorTwo a b) := rfl
    have h2 : xorAll (b :: l) = l.foldl xorTwo (xorTwo zero4 b) := rfl
    rw [h1, h2, ih _ (xorTwo_length _ _), ih _ (xorTwo_length _ _), xorTwo_assoc a b, xorTwo_assoc zero4 b, zero_xorTwo (xorTwo_length _ _)]
theorem xorAll_nil : xorAll [] = zero4 := rfl
theorem xorAll_append (l m : List Bs) : xorAll (l ++ m) = xorTwo (xorAll l) (xorAll m) := by
  unfold xorAll
  rw [List.foldl_append]
  exact foldX m _ (foldX_length l zero4 rfl)
theorem xorAll_one {b : Bs} (h : b.length = 4) : xorAll [b] = b := zero_xorTwo h
theorem xorAll_cons {b : Bs} (l : List Bs) (h : b.length = 4) : xorAll (b :: l) = xorTwo b (xorAll l) := by
  have := xorAll_append [b] l
  rwa [xorAll_one h] at this
theorem xorAll_take {l : List Bs} {k : Nat} (h : k < l.length) : xorAll (l.take (k + 1)) = xorTwo (xorAll (l.take k)) l[k] := by
  unfold xorAll
  rw [List.take_succ_eq_append_getElem h, List.foldl_append]
  rfl
theorem xorTwo_left_cancel {a b : Bs} (h : b.length = 4) : xorTwo a (xorTwo a b) = b := by rw [← xorTwo_assoc, xorTwo_self, zero_xorTwo h]

/-- Twice is not at all. -/
theorem xorAll_twice {l : List Bs} {a : Bs} (h : a.length = 4) : xorAll ((a :: l) ++ [a]) = xorAll l := by
  rw [xorAll_append, xorAll_one h, xorAll_cons l h, xorTwo_comm, xorTwo_left_cancel (xorAll_length l)]
/-- Blocks, and what they are together. -/
theorem xorAll_self (l : List Bs) : xorAll (l ++ [xorAll l]) = zero4 := by
  rw [xorAll_append, xorAll_one (xorAll_length l), xorTwo_self]
/-- Any one is what the others are. -/
theorem xorAll_eraseIdx {l : List Bs} {k : Nat} (hl : Blocks4 l) (hk : k < l.length) : xorTwo (xorAll (l.eraseIdx k)) l[k] = xorAll l := by
  induction l generalizing k with
  | nil => simp at hk
  | cons b l ih =>
    have hb : b.length = 4 := hl b List.mem_cons_self
    cases k with
    | zero =>
      simp only [List.eraseIdx_cons_zero, List.getElem_cons_zero]
      rw [xorAll_cons l hb, xorTwo_comm]
    | succ k =>
      simp only [List.eraseIdx_cons_succ, List.getElem_cons_succ]
      rw [xorAll_cons _ hb, xorAll_cons _ hb, xorTwo_assoc, ih (fun x hx => hl x (List.mem_cons_of_mem _ hx)) (by simpa using hk)]
theorem xorAll_reverse {l : List Bs} (hl : Blocks4 l) : xorAll l.reverse = xorAll l := by
  induction l with
  | nil => rfl
  | cons b l ih =>
    have hb : b.length = 4 := hl b List.mem_cons_self
    rw [List.reverse_cons, xorAll_append, xorAll_one hb, xorAll_cons _ hb, ih fun x hx => hl x (List.mem_cons_of_mem _ hx), xorTwo_comm]
theorem xorTwo_right_inj {a b c : Bs} (ha : a.length = 4) (hb : b.length = 4) (h : xorTwo a c = xorTwo b c) : a = b := by
  rw [← xorTwo_twice (b := c) ha, h, xorTwo_twice hb]
/-- What is none is told by all others. -/
theorem xor_others {l : List Bs} {k : Nat} (hl : Blocks4 l) (hk : k < l.length) (hz : xorAll l = zero4) : xorAll (l.eraseIdx k) = l[k] := by
  have h := xorAll_eraseIdx hl hk
  rw [hz] at h
  have hlk : l[k].length = 4 := hl _ (List.getElem_mem hk)
  apply xorTwo_right_inj (xorAll_length _) hlk (c := l[k])
  rw [h, xorTwo_self]

/-- All but one, the last first. -/
def othersTo (l : List Bs) (n j : Nat) : List Bs := ((l.take j).eraseIdx n).reverse
theorem othersTo_zero (l : List Bs) (n : Nat) : othersTo l n 0 = [] := by simp [othersTo]
theorem othersTo_same (l : List Bs) (n : Nat) : othersTo l n (n + 1) = othersTo l n n := by
  unfold othersTo
  congr 1
  apply List.ext_getElem?
  intro i
  rw [List.getElem?_eraseIdx, List.getElem?_eraseIdx]
  by_cases h : i < n
  · rw [if_pos h, if_pos h, List.getElem?_take, List.getElem?_take, if_pos (by omega), if_pos h]
  · rw [if_neg h, if_neg h, List.getElem?_take, List.getElem?_take, if_neg (by omega), if_neg (by omega)]
theorem othersTo_next {l : List Bs} {n j : Nat} (hj : j < l.length) (hne : j ≠ n) : othersTo l n (j + 1) = l[j] :: othersTo l n j := by
  unfold othersTo
  rw [List.take_succ_eq_append_getElem hj]
  by_cases h : n < j
  · rw [List.eraseIdx_append_of_lt_length (by simp; omega), List.reverse_append]; rfl
  · rw [List.eraseIdx_append_of_length_le (by simp; omega), List.eraseIdx_of_length_le (l := [l[j]]) (by simp; omega), List.eraseIdx_of_length_le (l := l.take j) (by simp; omega), List.reverse_append]; rfl
theorem othersTo_all (l : List Bs) (n : Nat) : othersTo l n l.length = (l.eraseIdx n).reverse := by unfold othersTo; rw [List.take_length]
theorem othersTo_len (l : List Bs) (n j : Nat) (h : j ≤ l.length) : (othersTo l n j).length ≤ j := by
  unfold othersTo
  rw [List.length_reverse]
  have := List.length_eraseIdx_le (l.take j) n
  simp at this
  omega
theorem othersTo_blocks {l : List Bs} (n j : Nat) (h : Blocks4 l) : Blocks4 (othersTo l n j) := fun b hb => by
  unfold othersTo at hb
  rw [List.mem_reverse] at hb
  exact h b (List.mem_of_mem_take (List.mem_of_mem_eraseIdx hb))
theorem xorBack {l : List Bs} {n : Nat} (hl : Blocks4 l) (hn : n < l.length) : xorAll (othersTo (l ++ [xorAll l]) n (l.length + 1)) = l[n] := by
  have hb : Blocks4 (l ++ [xorAll l]) := fun b hb => by
    simp at hb
    rcases hb with hb | rfl
    · exact hl b hb
    · exact xorAll_length l
  have e : l.length + 1 = (l ++ [xorAll l]).length := by simp
  rw [e, othersTo_all, xorAll_reverse (fun b hm => hb b (List.mem_of_mem_eraseIdx hm)), xor_others hb (by simp; omega) (xorAll_self l), List.getElem_append_left hn]
/-- What the loop of Two has behind k rounds. -/
def xorTo (a b : Bs) (k : Nat) : Bs := (xorTwo a b).take k ++ zero4.drop k
theorem xorTo_set (a b : Bs) {k : Nat} (hk : k < 4) : (xorTo a b k).set k (a.getD k 0 ^^^ b.getD k 0) = xorTo a b (k + 1) := by
  match k, hk with
  | 0, _ => rfl
  | 1, _ => rfl
  | 2, _ => rfl
  | 3, _ => rfl
theorem xorTo_length (a b : Bs) {k : Nat} (hk : k ≤ 4) : (xorTo a b k).length = 4 := by
  unfold xorTo
  simp [xorTwo_length, zero4]
  omega
theorem xorTo_all (a b : Bs) : xorTo a b 4 = xorTwo a b := rfl
/-! ### bit by bit -/
/-- Of how many blocks byte i has bit k. -/
def cntB (l : List Bs) (i k : Nat) : Nat := (l.filter fun b => decide ((b.getD i 0).toNat / 2 ^ k % 2 = 1)).length
def refByte (l : List Bs) (i : Nat) : Nat → Nat
  | 0 => 0
  | k + 1 => refByte l i k + 2 ^ k * (cntB l i k % 2)
theorem cntB_take {l : List Bs} {i k m : Nat} (h : m < l.length) : cntB (l.take (m + 1)) i k = cntB (l.take m) i k + if (l[m].getD i 0).toNat / 2 ^ k % 2 = 1 then 1 else 0 := by
  unfold cntB
  rw [List.take_succ_eq_append_getElem h, List.filter_append, List.length_append]
  congr 1
  by_cases hc : (l[m].getD i 0).toNat / 2 ^ k % 2 = 1
  · rw [if_pos hc, List.filter_cons, if_pos (decide_eq_true hc)]; rfl
  · rw [if_neg hc, List.filter_cons, if_neg (by simpa using hc)]; rfl
theorem cntB_le (l : List Bs) (i k : Nat) : cntB l i k ≤ l.length := List.length_filter_le _ _
theorem bit_xor (a b : UInt8) (k : Nat) : (a ^^^ b).toNat / 2 ^ k % 2 = (a.toNat / 2 ^ k % 2 + b.toNat / 2 ^ k % 2) % 2 := by
  have h1 := Nat.testBit_xor a.toNat b.toNat k
  rw [← UInt8.toNat_xor] at h1
  simp only [Nat.testBit_eq_decide_div_mod_eq] at h1
  have ha := Nat.mod_two_eq_zero_or_one (a.toNat / 2 ^ k)
  have hb := Nat.mod_two_eq_zero_or_one (b.toNat / 2 ^ k)
  have hc := Nat.mod_two_eq_zero_or_one ((a ^^^ b).toNat / 2 ^ k)
  generalize a.toNat / 2 ^ k % 2 = x at *
  generalize b.toNat / 2 ^ k % 2 = y at *
  generalize (a ^^^ b).toNat / 2 ^ k % 2 = z at *
  rcases ha with rfl | rfl <;> rcases hb with rfl | rfl <;> rcases hc with rfl | rfl <;> first | rfl | (exact absurd h1 (by decide))
theorem xorTwo_get {a b : Bs} {i : Nat} (hi : i < 4) : (xorTwo a b).getD i 0 = a.getD i 0 ^^^ b.getD i 0 := by
  match i, hi with
  | 0, _ => rfl
  | 1, _ => rfl
  | 2, _ => rfl
  | 3, _ => rfl
theorem zero4_get (i : Nat) : zero4.getD i 0 = 0 := by
  match i with
  | 0 => rfl
  | 1 => rfl
  | 2 => rfl
  | 3 => rfl
  | i + 4 => rfl
theorem cntB_xor (l : List Bs) (i k : Nat) (hi : i < 4) : cntB l i k % 2 = ((xorAll l).getD i 0).toNat / 2 ^ k % 2 := by
  have : ∀ m, m ≤ l.length → cntB (l.take m) i k % 2 = ((xorAll (l.take m)).getD i 0).toNat / 2 ^ k % 2 := by
    intro m
    induction m with
    | zero =>
      intro _
      simp only [List.take_zero, xorAll_nil, zero4_get]
      simp [cntB]
    | succ m ih =>
      intro hm
      rw [cntB_take (by omega), xorAll_take (by omega), xorTwo_get hi, bit_xor, ← ih (by omega)]
      have hb := Nat.mod_two_eq_zero_or_one ((l[m].getD i 0).toNat / 2 ^ k)
      rcases hb with hb | hb <;> rw [hb] <;> simp <;> omega
  have := this l.length (Nat.le_refl _)
  rwa [List.take_length] at this
def bitsOf (n : Nat) : Nat → Nat
  | 0 => 0
  | k + 1 => bitsOf n k + 2 ^ k * (n / 2 ^ k % 2)
theorem bitsOf_all : ∀ n, n < 256 → bitsOf n 8 = n := by decide +kernel
theorem refByte_bits (l : List Bs) (i m : Nat) (hi : i < 4) : refByte l i m = bitsOf ((xorAll l).getD i 0).toNat m := by
  induction m with
  | zero => rfl
  | succ m ih => unfold refByte bitsOf; rw [ih, cntB_xor l i m hi]
theorem refByte_all (l : List Bs) (i : Nat) (hi : i < 4) : refByte l i 8 = ((xorAll l).getD i 0).toNat := by
  rw [refByte_bits l i 8 hi, bitsOf_all _ (UInt8.toNat_lt _)]
theorem refByte_lt (l : List Bs) (i : Nat) (k : Nat) : refByte l i k < 2 ^ k := by
  induction k with
  | zero => simp [refByte]
  | succ k ih =>
    unfold refByte
    have h2 : 2 ^ (k + 1) = 2 ^ k + 2 ^ k := by rw [Nat.pow_succ]; omega
    rcases Nat.mod_two_eq_zero_or_one (cntB l i k) with h | h <;> rw [h] <;> simp <;> omega
end Go.Proofs.YtdcmbdghnkgghaaDoor.M

namespace Go.Proofs.YtdcmbdghnkgghaaDoor.M
set_option linter.unusedVariables false

def thereB (d s : Int) : Bool := decide (0 ≤ d) && decide (d < 4) && decide (0 ≤ s) && decide (s < 3)
/-- A cell's bytes. -/
def cellB (d s : Nat) (x : Bs) : Bs := sealB (UInt8.ofNat d :: UInt8.ofNat s :: x)
/-- What bytes have at a place, and why not. -/
def readC (b : Bs) (d s : Int) : Bs × Int :=
  if b.length ≠ 8 ∨ sealedB b = false then ([], 7) else if at8 b 0 ≠ d ∨ at8 b 1 ≠ s then ([], 8) else ((b.drop 2).take 4, 0)

theorem thereB_iff {d s : Int} : thereB d s = true ↔ 0 ≤ d ∧ d < 4 ∧ 0 ≤ s ∧ s < 3 := by
  unfold thereB
  simp [and_assoc]
theorem cellB_length (d s : Nat) (x : Bs) : (cellB d s x).length = x.length + 4 := by
  unfold cellB; rw [sealB_length]; simp
theorem cellB_0 (d s : Nat) (x : Bs) (hd : d < 256) : at8 (cellB d s x) 0 = d := by
  unfold cellB sealB at8
  simp
  omega
theorem cellB_1 (d s : Nat) (x : Bs) (hs : s < 256) : at8 (cellB d s x) 1 = s := by
  unfold cellB sealB at8
  simp
  omega
theorem cellB_data (d s : Nat) {x : Bs} (hx : x.length = 4) : ((cellB d s x).drop 2).take 4 = x := by
  obtain ⟨a, b, c, e, rfl⟩ := len4 hx
  rfl
theorem readC_cellB (d s : Nat) {x : Bs} (hx : x.length = 4) (hd : d < 256) (hs : s < 256) : readC (cellB d s x) d s = (x, 0) := by
  unfold readC
  rw [if_neg, if_neg, cellB_data d s hx]
  · rw [cellB_0 d s x hd, cellB_1 d s x hs]; simp
  · rw [cellB_length, hx]
    unfold cellB
    rw [sealedB_sealB]
    simp
theorem readC_other (d s : Nat) {x : Bs} (hx : x.length = 4) (hd : d < 256) {o : Int} (ho : o ≠ d) : readC (cellB d s x) o s = ([], 8) := by
  unfold readC
  rw [if_neg, if_pos]
  · left; rw [cellB_0 d s x hd]; exact fun h => ho h.symm
  · rw [cellB_length, hx]
    unfold cellB
    rw [sealedB_sealB]
    simp
/-- One byte turned is found. -/
theorem readC_set (d s : Nat) {x : Bs} {i : Nat} {c : UInt8} (hi : i < (cellB d s x).length) (hne : (cellB d s x)[i] ≠ c) (d' s' : Int) : readC ((cellB d s x).set i c) d' s' = ([], 7) := by
  unfold readC
  rw [if_pos]
  right
  exact sealedB_set hi hne
/-- A cell that is read is that cell. -/
theorem readC_ok {b : Bs} {d s : Nat} {x : Bs} (h : readC b d s = (x, 0)) : b = cellB d s x ∧ x.length = 4 ∧ d < 256 ∧ s < 256 := by
  unfold readC at h
  split at h
  · simp at h
  · rename_i h1
    split at h
    · simp at h
    · rename_i h2
      simp only [not_or, Decidable.not_not, Bool.not_eq_false] at h1 h2
      obtain ⟨h1a, h1b⟩ := h1
      obtain ⟨h2a, h2b⟩ := h2
      obtain ⟨a, rfl, hl⟩ := sealedB_form h1b
      have ha : a.length = 6 := by omega
      match a, ha with
      | [p, q, r, t, u, v], _ =>
        have e1 : at8 (sealB [p, q, r, t, u, v]) 0 = (p.toNat : Int) := rfl
        have e2 : at8 (sealB [p, q, r, t, u, v]) 1 = (q.toNat : Int) := rfl
        rw [e1] at h2a
        rw [e2] at h2b
        have e3 : ((sealB [p, q, r, t, u, v]).drop 2).take 4 = [r, t, u, v] := rfl
        rw [e3] at h
        injection h with h _
        subst h
        have hp := p.toNat_lt
        have hq := q.toNat_lt
        have e4 : UInt8.ofNat d = p := by apply UInt8.toNat_inj.1; rw [UInt8.toNat_ofNat']; omega
        have e5 : UInt8.ofNat s = q := by apply UInt8.toNat_inj.1; rw [UInt8.toNat_ofNat']; omega
        refine ⟨?_, rfl, by omega, by omega⟩
        unfold cellB
        rw [e4, e5]
theorem readC_len {b : Bs} {d s : Int} (h : (readC b d s).2 = 0) : (readC b d s).1.length = 4 := by
  unfold readC at *
  split
  · rename_i h1; rw [if_pos h1] at h; simp at h
  · rename_i h1
    split
    · rename_i h2; rw [if_neg h1, if_pos h2] at h; simp at h
    · simp only [not_or, Decidable.not_not] at h1
      simp [h1.1]
theorem readC_bad {b : Bs} {d s : Int} (h : (readC b d s).2 ≠ 0) : (readC b d s).1 = [] := by
  unfold readC at *
  split
  · rfl
  · rename_i h1
    split
    · rfl
    · rename_i h2; rw [if_neg h1, if_neg h2] at h; simp at h
theorem cellB_inj {d s d' s' : Nat} {x y : Bs} (hd : d < 256) (hs : s < 256) (hd' : d' < 256) (hs' : s' < 256) (h : cellB d s x = cellB d' s' y) : d = d' ∧ s = s' ∧ x = y := by
  have h1 := sealB_inj h
  injection h1 with h2 h3
  injection h3 with h4 h5
  have e1 := congrArg UInt8.toNat h2
  have e2 := congrArg UInt8.toNat h4
  rw [UInt8.toNat_ofNat', UInt8.toNat_ofNat'] at e1 e2
  exact ⟨by omega, by omega, h5⟩
end Go.Proofs.YtdcmbdghnkgghaaDoor.M

namespace Go.Proofs.YtdcmbdghnkgghaaDoor.M
set_option linter.unusedVariables false
structure Deed where
  kind : Int
  n : Int
  m : Int
  data : Bs
abbrev InB (n : Int) : Prop := 0 ≤ n ∧ n < 9
def wrongI (d : Deed) : Int :=
  if d.kind = 1 then (if ¬ InB d.n ∨ d.m ≠ 0 then 3 else if d.data.length ≠ 4 then 4 else 0)
  else if d.kind = 2 then (if ¬ InB d.n ∨ ¬ InB d.m ∨ d.n / 3 ≠ d.m / 3 then 3 else if 0 < d.data.length then 4 else 0)
  else 1
def doD (l : List Bs) (d : Deed) : List Bs :=
  if d.kind = 1 then l.set d.n.toNat d.data
  else (l.set d.n.toNat (l.getD d.m.toNat [])).set d.m.toNat (l.getD d.n.toNat [])
def newB : List Bs := List.replicate 9 zero4
theorem doD_length (l : List Bs) (d : Deed) : (doD l d).length = l.length := by
  unfold doD
  split <;> simp
/-- What a right deed is. -/
theorem wrong_ok {d : Deed} (h : wrongI d = 0) : InB d.n ∧ (d.kind = 1 ∧ d.m = 0 ∧ d.data.length = 4 ∨ d.kind = 2 ∧ InB d.m ∧ d.n / 3 = d.m / 3 ∧ d.data.length = 0) := by
  unfold wrongI at h
  split at h
  · rename_i hk
    split at h
    · simp at h
    · rename_i h1
      split at h
      · simp at h
      · rename_i h2
        refine ⟨by by_cases hn : InB d.n; exact hn; exact absurd (.inl hn) h1, .inl ⟨hk, ?_, by omega⟩⟩
        by_cases hm : d.m = 0
        · exact hm
        · exact absurd (.inr hm) h1
  · split at h
    · rename_i hk
      split at h
      · simp at h
      · rename_i h1
        split at h
        · simp at h
        · rename_i h2
          refine ⟨by by_cases hn : InB d.n; exact hn; exact absurd (.inl hn) h1, .inr ⟨hk, ?_, ?_, by omega⟩⟩
          · by_cases hm : InB d.m
            · exact hm
            · exact absurd (.inr (.inl hm)) h1
          · by_cases hm : d.n / 3 = d.m / 3
            · exact hm
            · exact absurd (.inr (.inr hm)) h1
    · simp at h
/-- One of the blocks behind a deed. -/
theorem doD_get (l : List Bs) (d : Deed) (hr : wrongI d = 0) (hl : l.length = 9) (i : Nat) (hi : i < 9) :
    (doD l d).getD i [] = if d.kind = 1 ∧ (i : Int) = d.n then d.data else if d.kind = 2 ∧ (i : Int) = d.n then l.getD d.m.toNat [] else if d.kind = 2 ∧ (i : Int) = d.m then l.getD d.n.toNat [] else l.getD i [] := by
  obtain ⟨⟨n0, n1⟩, hk⟩ := wrong_ok hr
  unfold doD
  rcases hk with ⟨hk, _, _⟩ | ⟨hk, ⟨m0, m1⟩, _, _⟩
  · rw [if_pos hk]
    by_cases h : (i : Int) = d.n
    · obtain rfl : i = d.n.toNat := by omega
      rw [if_pos ⟨hk, h⟩]
      simp [List.getD, List.getElem?_set_self (show d.n.toNat < l.length by omega)]
    · rw [if_neg (by intro e; exact h e.2), if_neg (by intro e; omega), if_neg (by intro e; omega)]
      simp [List.getD, List.getElem?_set_ne (show d.n.toNat ≠ i by omega)]
  · rw [if_neg (by omega)]
    rw [if_neg (by intro e; omega)]
    by_cases h : (i : Int) = d.n
    · obtain rfl : i = d.n.toNat := by omega
      rw [if_pos ⟨hk, h⟩]
      by_cases hm : d.m = d.n
      · rw [hm]
        simp [List.getD, List.getElem?_set_self (show d.n.toNat < l.length by omega)]
      · simp [List.getD, List.getElem?_set_ne (show d.m.toNat ≠ d.n.toNat by omega), List.getElem?_set_self (show d.n.toNat < l.length by omega)]
    · rw [if_neg (by intro e; exact h e.2)]
      by_cases hm : (i : Int) = d.m
      · obtain rfl : i = d.m.toNat := by omega
        rw [if_pos ⟨hk, hm⟩]
        simp only [List.getD]
        rw [List.getElem?_set_self (by rw [List.length_set]; omega)]
        simp
      · rw [if_neg (by intro e; exact hm e.2)]
        simp [List.getD, List.getElem?_set_ne (show d.m.toNat ≠ i by omega), List.getElem?_set_ne (show d.n.toNat ≠ i by omega)]
end Go.Proofs.YtdcmbdghnkgghaaDoor.M

namespace Go.Proofs.YtdcmbdghnkgghaaDoor.M
set_option linter.unusedVariables false
theorem ext9 {a b : List Bs} (ha : a.length = 9) (hb : b.length = 9) (h : ∀ i, i < 9 → a.getD i [] = b.getD i []) : a = b := by
  apply List.ext_getElem (by omega)
  intro i h1 h2
  have := h i (by omega)
  simpa [List.getD, List.getElem?_eq_getElem h1, List.getElem?_eq_getElem h2] using this
theorem doD_get2 {l : List Bs} {d : Deed} (hr : wrongI d = 0) (hk : d.kind = 2) (hl : l.length = 9) (i : Nat) (hi : i < 9) :
    (doD l d).getD i [] = if (i : Int) = d.n then l.getD d.m.toNat [] else if (i : Int) = d.m then l.getD d.n.toNat [] else l.getD i [] := by
  rw [doD_get l d hr hl i hi, if_neg (by omega)]
  simp only [hk, true_and]
theorem doD_swap2 {l : List Bs} {d : Deed} (hr : wrongI d = 0) (hk : d.kind = 2) (hl : l.length = 9) : doD (doD l d) d = l := by
  obtain ⟨⟨n0, n1⟩, hq⟩ := wrong_ok hr
  obtain ⟨m0, m1⟩ : InB d.m := by omega
  have hl1 : (doD l d).length = 9 := by rw [doD_length, hl]
  refine ext9 (by rw [doD_length, hl1]) hl fun i hi => ?_
  have en : ((d.n.toNat : Nat) : Int) = d.n := by omega
  have em : ((d.m.toNat : Nat) : Int) = d.m := by omega
  have gn := doD_get2 hr hk hl d.n.toNat (by omega)
  have gm := doD_get2 hr hk hl d.m.toNat (by omega)
  have gi := doD_get2 hr hk hl i hi
  rw [doD_get2 hr hk hl1 i hi]
  rw [en] at gn
  rw [em] at gm
  by_cases h1 : (i : Int) = d.n
  · have hi' : d.n.toNat = i := by omega
    rw [if_pos h1, gm]
    by_cases h2 : d.m = d.n
    · rw [if_pos h2, h2, hi']
    · rw [if_neg h2, if_pos rfl, hi']
  · rw [if_neg h1]
    by_cases h2 : (i : Int) = d.m
    · have hi' : d.m.toNat = i := by omega
      rw [if_pos h2, gn, if_pos rfl, hi']
    · rw [if_neg h2, gi, if_neg h1, if_neg h2]
theorem doD_write2 {l : List Bs} {d : Deed} (hk : d.kind = 1) : doD (doD l d) d = doD l d := by
  unfold doD
  simp [hk]
theorem doD_write_at {l : List Bs} {d : Deed} (hr : wrongI d = 0) (hk : d.kind = 1) (hl : l.length = 9) : (doD l d)[d.n.toNat]? = some d.data := by
  obtain ⟨⟨n0, n1⟩, _⟩ := wrong_ok hr
  unfold doD
  rw [if_pos hk, List.getElem?_set_self (by omega)]
/-- A block that a deed names. -/
def namesB (d : Deed) (n : Nat) : Bool := (n : Int) == d.n || d.kind == 2 && (n : Int) == d.m
theorem doD_other {l : List Bs} {d : Deed} (hr : wrongI d = 0) (hl : l.length = 9) {i : Nat} (hi : i < 9) (hn : namesB d i = false) : (doD l d).getD i [] = l.getD i [] := by
  unfold namesB at hn
  simp only [Bool.or_eq_false_iff, beq_eq_false_iff_ne, Bool.and_eq_false_iff, ne_eq] at hn
  obtain ⟨h1, h2⟩ := hn
  rw [doD_get l d hr hl i hi, if_neg (by intro e; exact h1 e.2), if_neg (by intro e; exact h1 e.2), if_neg (by intro e; rcases h2 with h | h; exact h e.1; exact h e.2)]
theorem doD_named {l l' : List Bs} {d : Deed} (hr : wrongI d = 0) (hl : l.length = 9) (hl' : l'.length = 9) {i : Nat} (hi : i < 9) (hn : namesB d i = true) (h : ∀ j, j < 9 → namesB d j = true → l.getD j [] = l'.getD j []) : (doD l d).getD i [] = (doD l' d).getD i [] := by
  obtain ⟨⟨n0, n1⟩, hq⟩ := wrong_ok hr
  rw [doD_get l d hr hl i hi, doD_get l' d hr hl' i hi]
  rcases hq with ⟨hk, _⟩ | ⟨hk, ⟨m0, m1⟩, _⟩
  · have h1 : (i : Int) = d.n := by
      unfold namesB at hn
      simp only [Bool.or_eq_true, beq_iff_eq, Bool.and_eq_true] at hn
      rcases hn with h | h
      · exact h
      · omega
    rw [if_pos ⟨hk, h1⟩, if_pos ⟨hk, h1⟩]
  · have e1 : l.getD d.n.toNat [] = l'.getD d.n.toNat [] := h _ (by omega) (by unfold namesB; simp; left; omega)
    have e2 : l.getD d.m.toNat [] = l'.getD d.m.toNat [] := h _ (by omega) (by unfold namesB; simp [hk]; right; omega)
    have e3 := h i hi hn
    rw [e1, e2, e3]
/-- Two deeds that name no block in common come to the same, whichever is first. -/
theorem doD_apart {l : List Bs} {a b : Deed} (ha : wrongI a = 0) (hb : wrongI b = 0) (hl : l.length = 9) (h : ∀ n, n < 9 → (namesB a n && namesB b n) = false) : doD (doD l a) b = doD (doD l b) a := by
  have la : (doD l a).length = 9 := by rw [doD_length, hl]
  have lb : (doD l b).length = 9 := by rw [doD_length, hl]
  refine ext9 (by rw [doD_length, la]) (by rw [doD_length, lb]) fun i hi => ?_
  have hn := h i hi
  cases ea : namesB a i with
  | true =>
    rw [ea] at hn
    simp at hn
    rw [doD_other hb la hi hn]
    refine doD_named ha hl lb hi ea fun j hj hja => ?_
    have hnj := h j hj
    rw [hja] at hnj
    simp at hnj
    rw [doD_other hb hl hj hnj]
  | false =>
    rw [doD_other ha lb hi ea]
    cases eb : namesB b i with
    | true =>
      refine doD_named hb la hl hi eb fun j hj hjb => ?_
      have hnj := h j hj
      rw [hjb] at hnj
      simp at hnj
      rw [doD_other ha hl hj hnj]
    | false =>
      rw [doD_other hb la hi eb, doD_other hb hl hi eb, doD_other ha hl hi ea]
end Go.Proofs.YtdcmbdghnkgghaaDoor.M

namespace Go.Proofs.YtdcmbdghnkgghaaDoor.M
set_option linter.unusedVariables false
structure Arr where
  disks : List (List Bs)
  ints : List (Int × List Bs)
structure Step where
  kind : Int
  n : Int
  m : Int
  deed : Deed
/-- Four disks, three cells each. -/
def Shape (D : List (List Bs)) : Prop := D.length = 4 ∧ ∀ r ∈ D, r.length = 3 ∧ ∀ c ∈ r, c.length ≤ 8
def cellAt (D : List (List Bs)) (d s : Nat) : Bs := (D.getD d []).getD s []
def cellsA (D : List (List Bs)) (s : Nat) : List Bs := D.map (·.getD s [])
def setA (D : List (List Bs)) (d s : Nat) (b : Bs) : List (List Bs) := D.set d ((D.getD d []).set s b)
/-- Whether a stripe's cell is there. -/
def okC (l : List Bs) (s d : Nat) : Bool := (readC (l.getD d []) d s).2 == 0
def badL (l : List Bs) (s : Nat) : List Nat := (List.range l.length).filter fun d => !okC l s d
def badTo (l : List Bs) (s k : Nat) : List Nat := (List.range k).filter fun d => !okC l s d
def goodTo (l : List Bs) (s k : Nat) : List Bs := ((List.range k).filter fun d => okC l s d).map fun d => (readC (l.getD d []) d s).1
def rawTo (l : List Bs) (s k : Nat) : List Bs := (List.range k).map fun d => (readC (l.getD d []) d s).1
def datTo (l : List Bs) (s k : Nat) : List Bs := (List.range k).map fun d => if okC l s d then (readC (l.getD d []) d s).1 else xorAll (goodTo l s l.length)
def dataL (l : List Bs) (s : Nat) : List Bs × Int := if 1 < (badL l s).length then ([], 9) else (datTo l s l.length, 0)
def makeTo (data : List Bs) (s k : Nat) : List Bs := (List.range k).map fun d => cellB d s (data.getD d [])
def makeL (data : List Bs) (s : Nat) : List Bs := makeTo data s data.length
def newD : List (List Bs) := (List.range 4).map fun d => (List.range 3).map fun s => cellB d s zero4
def newA : Arr := ⟨newD, []⟩
/-- Where a block is, of its stripe. -/
def whereN (n : Nat) : Nat := if 3 - n / 3 ≤ n % 3 then n % 3 + 1 else n % 3
def planData (data : List Bs) (d : Deed) : List Bs :=
  let s := d.n.toNat / 3
  let e := if d.kind = 1 then data.set (whereN d.n.toNat) d.data
    else (data.set (whereN d.n.toNat) (data.getD (whereN d.m.toNat) [])).set (whereN d.m.toNat) (data.getD (whereN d.n.toNat) [])
  e.set (3 - s) (xorAll (e.eraseIdx (3 - s)))
def planA (D : List (List Bs)) (d : Deed) : (Int × List Bs) × Int :=
  if wrongI d ≠ 0 then ((0, []), wrongI d)
  else
    let s := d.n.toNat / 3
    if (dataL (cellsA D s) s).2 ≠ 0 then ((0, []), (dataL (cellsA D s) s).2)
    else ((((s : Nat) : Int), makeL (planData (dataL (cellsA D s) s).1 d) s), 0)
def putTo (D : List (List Bs)) (s : Nat) (l : List Bs) (k : Nat) : List (List Bs) := (List.range k).foldl (fun D d => setA D d s (l.getD d [])) D
/-- How many cells so many writes are: for the program, and for the document. -/
def cellsP (many : Int) : Nat := if many = -9223372036854775808 then 4 else (min (max (many - 1) 0) 4).toNat
def cellsR (many : Int) : Nat := (min (max (many - 1) 0) 4).toNat
def writeK (k : Int → Nat) (a : Arr) (i : Int × List Bs) (many : Int) : Arr :=
  ⟨putTo a.disks i.1.toNat i.2 (k many), if 5 < many then [] else if 0 < many then [i] else a.ints⟩
def writeA (a : Arr) (i : Int × List Bs) (many : Int) : Arr := writeK cellsP a i many
def writeR (a : Arr) (i : Int × List Bs) (many : Int) : Arr := writeK cellsR a i many
def mountTo (a : Arr) (k : Nat) : Arr := (a.ints.take k).foldl (fun x i => writeA x i 6) a
def mountA (a : Arr) : Arr := mountTo a a.ints.length
def doA (a : Arr) (d : Deed) : Arr × Int := if (planA a.disks d).2 ≠ 0 then (a, (planA a.disks d).2) else (writeA a (planA a.disks d).1 6, 0)
def readA (D : List (List Bs)) (n : Int) : Bs × Int :=
  if ¬ InB n then ([], 3) else
    let d := whereN n.toNat
    let s := n.toNat / 3
    if (readC (cellAt D d s) d s).2 = 0 then ((readC (cellAt D d s) d s).1, 0)
    else if (dataL (cellsA D s) s).2 ≠ 0 then ([], (dataL (cellsA D s) s).2)
    else ((dataL (cellsA D s) s).1.getD d [], 0)
def blocksTo (D : List (List Bs)) (k : Nat) : List Bs := (List.range k).map fun n => (readA D (n : Nat)).1
/-- The first error that reading the blocks has. -/
def blocksE (D : List (List Bs)) : Int := (((List.range 9).map fun n => (readA D (n : Nat)).2).find? (fun e => e ≠ 0)).getD 0
def blocksA (D : List (List Bs)) : List Bs × Int := if blocksE D = 0 then (blocksTo D 9, 0) else ([], blocksE D)
def mendA (a : Arr) (s : Int) : Arr × Int × Int :=
  if s < 0 ∨ 3 ≤ s then (a, 0, 3) else
    let l := cellsA a.disks s.toNat
    if (dataL l s.toNat).2 ≠ 0 then (a, (badL l s.toNat).length, (dataL l s.toNat).2)
    else (⟨putTo a.disks s.toNat (makeL (dataL l s.toNat).1 s.toNat) 4, a.ints⟩, (badL l s.toNat).length, 0)
def mendsTo (a : Arr) (k : Nat) : Arr := (List.range k).foldl (fun a s => (mendA a (s : Nat)).1) a
def mendNs (a : Arr) (k : Nat) : List Int := (List.range k).map fun s => (mendA (mendsTo a s) (s : Nat)).2.1
def worstTo (D : List (List Bs)) (k : Nat) : Nat := (List.range k).foldl (fun n s => max n (badL (cellsA D s) s).length) 0
def worstA (D : List (List Bs)) : Nat := worstTo D 3
def rotA (a : Arr) (d s at_ : Int) : Arr × Int :=
  if thereB d s = false ∨ at_ < 0 ∨ ((cellAt a.disks d.toNat s.toNat).length : Int) ≤ at_ then (a, 6)
  else (⟨setA a.disks d.toNat s.toNat ((cellAt a.disks d.toNat s.toNat).set at_.toNat ((cellAt a.disks d.toNat s.toNat).getD at_.toNat 0 ^^^ 1)), a.ints⟩, 0)
def goneA (a : Arr) (d : Int) : Arr × Int := if d < 0 ∨ 4 ≤ d then (a, 6) else (⟨a.disks.set d.toNat [[], [], []], a.ints⟩, 0)
def stepK (k : Int → Nat) (a : Arr) (s : Step) : Arr × Int :=
  if s.kind = 1 then doA a s.deed
  else if s.kind = 2 then (if (planA a.disks s.deed).2 ≠ 0 then (a, (planA a.disks s.deed).2) else (mountA (writeK k a (planA a.disks s.deed).1 s.n), 0))
  else if s.kind = 3 then (if s.n < 0 then (a, 6) else rotA a (s.n / 3) (s.n % 3) s.m)
  else if s.kind = 4 then goneA a s.n
  else if s.kind = 5 then ((mendA a s.n).1, (mendA a s.n).2.2)
  else (a, 1)
def stepP (a : Arr) (s : Step) : Arr × Int := stepK cellsP a s
def stepR (a : Arr) (s : Step) : Arr × Int := stepK cellsR a s
/-- The steps, as far as they are played. -/
def playTo (l : List Step) (k : Nat) : Arr := (l.take k).foldl (fun a s => (stepR a s).1) newA
def playA (l : List Step) : Arr := playTo l 100
def againA (a : Arr) (s : Step) : Bool := s.kind == 3 && decide (0 ≤ s.n) && decide (s.n ≤ 11) && !((readC (cellAt a.disks (s.n.toNat / 3) (s.n.toNat % 3)) (s.n / 3) (s.n % 3)).2 == 0)
/-- As long as of each stripe one cell at most is none, and none rots that is none. -/
def gently : Nat → Arr → List Step → Arr
  | 0, a, _ => a
  | _, a, [] => a
  | n + 1, a, s :: l => if againA a s || decide (1 < worstA (stepR a s).1.disks) then a else gently n (stepR a s).1 l
def gentlyA (l : List Step) : Arr := gently 100 newA l
def listsA (l : List Bs) (s : Step) : List (List Bs) :=
  if wrongI s.deed ≠ 0 then [l] else if s.kind = 1 then [doD l s.deed] else if s.kind = 2 then [l, doD l s.deed] else [l]
end Go.Proofs.YtdcmbdghnkgghaaDoor.M

namespace Go.Proofs.YtdcmbdghnkgghaaDoor.M
set_option linter.unusedVariables false
theorem badTo_ok {l : List Bs} {s k : Nat} (h : okC l s k = true) : badTo l s (k + 1) = badTo l s k := by
  unfold badTo; rw [List.range_succ, List.filter_append]; simp [h]
theorem badTo_bad {l : List Bs} {s k : Nat} (h : okC l s k = false) : badTo l s (k + 1) = badTo l s k ++ [k] := by
  unfold badTo; rw [List.range_succ, List.filter_append]; simp [h]
theorem badTo_len (l : List Bs) (s k : Nat) : (badTo l s k).length ≤ k := by
  have := List.length_filter_le (fun d => !okC l s d) (List.range k)
  rw [List.length_range] at this
  exact this
theorem badL_eq (l : List Bs) (s : Nat) : badL l s = badTo l s l.length := rfl
theorem goodTo_ok {l : List Bs} {s k : Nat} (h : okC l s k = true) : goodTo l s (k + 1) = goodTo l s k ++ [(readC (l.getD k []) k s).1] := by
  unfold goodTo; rw [List.range_succ, List.filter_append]; simp [h]
theorem goodTo_bad {l : List Bs} {s k : Nat} (h : okC l s k = false) : goodTo l s (k + 1) = goodTo l s k := by
  unfold goodTo; rw [List.range_succ, List.filter_append]; simp [h]
theorem goodTo_len (l : List Bs) (s k : Nat) : (goodTo l s k).length ≤ k := by
  unfold goodTo
  rw [List.length_map]
  have := List.length_filter_le (fun d => okC l s d) (List.range k)
  rw [List.length_range] at this
  exact this
theorem goodTo_blocks (l : List Bs) (s k : Nat) : Blocks4 (goodTo l s k) := by
  intro b hb
  unfold goodTo at hb
  simp only [List.mem_map, List.mem_filter, List.mem_range] at hb
  obtain ⟨d, ⟨_, hd⟩, rfl⟩ := hb
  exact readC_len (by unfold okC at hd; simpa using hd)
theorem rawTo_next (l : List Bs) (s k : Nat) : rawTo l s (k + 1) = rawTo l s k ++ [(readC (l.getD k []) k s).1] := by
  unfold rawTo; rw [List.range_succ]; simp
theorem rawTo_len (l : List Bs) (s k : Nat) : (rawTo l s k).length = k := by simp [rawTo]
theorem datTo_next (l : List Bs) (s k : Nat) : datTo l s (k + 1) = datTo l s k ++ [if okC l s k then (readC (l.getD k []) k s).1 else xorAll (goodTo l s l.length)] := by
  unfold datTo; rw [List.range_succ]; simp
theorem datTo_len (l : List Bs) (s k : Nat) : (datTo l s k).length = k := by simp [datTo]
theorem makeTo_next (d : List Bs) (s k : Nat) : makeTo d s (k + 1) = makeTo d s k ++ [cellB k s (d.getD k [])] := by
  unfold makeTo; rw [List.range_succ]; simp
theorem makeTo_len (d : List Bs) (s k : Nat) : (makeTo d s k).length = k := by simp [makeTo]
theorem makeL_len (d : List Bs) (s : Nat) : (makeL d s).length = d.length := makeTo_len d s _
theorem okC_true {l : List Bs} {s d : Nat} : okC l s d = true ↔ (readC (l.getD d []) d s).2 = 0 := by unfold okC; simp
theorem okC_false {l : List Bs} {s d : Nat} : okC l s d = false ↔ (readC (l.getD d []) d s).2 ≠ 0 := by unfold okC; simp
theorem datTo_blocks (l : List Bs) (s k : Nat) : Blocks4 (datTo l s k) := by
  intro b hb
  unfold datTo at hb
  simp only [List.mem_map, List.mem_range] at hb
  obtain ⟨d, _, rfl⟩ := hb
  split
  · rename_i h
    exact readC_len (okC_true.1 h)
  · exact xorAll_length _
theorem mem_badL {l : List Bs} {s d : Nat} : d ∈ badL l s ↔ d < l.length ∧ okC l s d = false := by
  unfold badL
  simp
theorem dat_none {l : List Bs} {s : Nat} (h : badL l s = []) : rawTo l s l.length = datTo l s l.length := by
  unfold rawTo datTo
  apply List.map_congr_left
  intro d hd
  have : okC l s d = true := by
    cases hk : okC l s d with
    | true => rfl
    | false =>
      have := mem_badL.2 ⟨by simpa using hd, hk⟩
      rw [h] at this
      cases this
  rw [if_pos this]
theorem one_bad {l : List Bs} {s b : Nat} (h : badL l s = [b]) : b < l.length ∧ okC l s b = false ∧ ∀ d, d < l.length → d ≠ b → okC l s d = true := by
  have hb : b ∈ badL l s := by rw [h]; simp
  obtain ⟨h1, h2⟩ := mem_badL.1 hb
  refine ⟨h1, h2, fun d hd hdb => ?_⟩
  cases hk : okC l s d with
  | true => rfl
  | false =>
    have := mem_badL.2 ⟨hd, hk⟩
    rw [h] at this
    simp at this
    exact absurd this hdb
theorem dat_one {l : List Bs} {s b : Nat} (h : badL l s = [b]) : (rawTo l s l.length).set b (xorAll (goodTo l s l.length)) = datTo l s l.length := by
  obtain ⟨h1, h2, h3⟩ := one_bad h
  apply List.ext_getElem
  · simp [rawTo, datTo]
  · intro i hi hj
    have hil : i < l.length := by simpa [datTo] using hj
    by_cases hib : i = b
    · subst hib
      simp [datTo, h2]
    · rw [List.getElem_set_ne (Ne.symm hib)]
      simp [rawTo, datTo, h3 i hil hib]
/-- What the others have: all of the list but d. -/
def othTo (l : List Bs) (s d k : Nat) : List Bs := ((List.range k).filter fun j => j ≠ d).map fun j => (readC (l.getD j []) j s).1
theorem othTo_same (l : List Bs) (s d : Nat) : othTo l s d (d + 1) = othTo l s d d := by
  unfold othTo; rw [List.range_succ, List.filter_append]; simp
theorem othTo_next {l : List Bs} {s d k : Nat} (h : k ≠ d) : othTo l s d (k + 1) = othTo l s d k ++ [(readC (l.getD k []) k s).1] := by
  unfold othTo; rw [List.range_succ, List.filter_append]; simp [h]
theorem othTo_len (l : List Bs) (s d k : Nat) : (othTo l s d k).length ≤ k := by
  unfold othTo
  rw [List.length_map]
  have := List.length_filter_le (fun j => decide (j ≠ d)) (List.range k)
  rw [List.length_range] at this
  exact this
theorem othTo_good {l : List Bs} {s b : Nat} (h : badL l s = [b]) : othTo l s b l.length = goodTo l s l.length := by
  obtain ⟨h1, h2, h3⟩ := one_bad h
  unfold othTo goodTo
  congr 1
  apply List.filter_congr
  intro d hd
  have hd' : d < l.length := by simpa using hd
  by_cases hdb : d = b
  · subst hdb; simp [h2]
  · simp [hdb, h3 d hd' hdb]
/-- At most one of them is none, and this one is. -/
theorem bad_single {l : List Bs} {s d : Nat} (h1 : ¬ 1 < (badL l s).length) (hd : d < l.length) (hb : okC l s d = false) : badL l s = [d] := by
  have hm := mem_badL.2 ⟨hd, hb⟩
  match hL : badL l s with
  | [] => rw [hL] at hm; cases hm
  | [x] => rw [hL] at hm; simp at hm; subst hm; rfl
  | x :: y :: t => rw [hL] at h1; simp at h1
theorem cellsA_len (D : List (List Bs)) (s : Nat) : (cellsA D s).length = D.length := by simp [cellsA]
theorem cellsA_get (D : List (List Bs)) (s d : Nat) : (cellsA D s).getD d [] = cellAt D d s := by
  unfold cellsA cellAt
  simp only [List.getD, List.getElem?_map]
  cases D[d]? <;> simp
theorem cellsA_next {D : List (List Bs)} {s k : Nat} (hk : k < D.length) : (cellsA D s).take k ++ [cellAt D k s] = (cellsA D s).take (k + 1) := by
  rw [List.take_succ_eq_append_getElem (by rw [cellsA_len]; exact hk)]
  congr 2
  unfold cellsA cellAt
  simp [List.getD, List.getElem?_eq_getElem hk]
theorem Shape.row {D : List (List Bs)} (h : Shape D) {d : Nat} (hd : d < 4) : ∃ r, D[d]? = some r ∧ r.length = 3 ∧ (∀ c ∈ r, c.length ≤ 8) ∧ D.getD d [] = r := by
  have hl : d < D.length := by rw [h.1]; exact hd
  refine ⟨D[d], List.getElem?_eq_getElem hl, (h.2 _ (List.getElem_mem hl)).1, (h.2 _ (List.getElem_mem hl)).2, ?_⟩
  simp [List.getD, List.getElem?_eq_getElem hl]
theorem Shape.cell {D : List (List Bs)} (h : Shape D) {d s : Nat} (hd : d < 4) (hs : s < 3) : ∃ r, D[d]? = some r ∧ r.length = 3 ∧ r[s]? = some (cellAt D d s) ∧ (cellAt D d s).length ≤ 8 := by
  obtain ⟨r, h1, h2, h3, h4⟩ := h.row hd
  have hl : s < r.length := by rw [h2]; exact hs
  have e : cellAt D d s = r[s] := by unfold cellAt; rw [h4]; simp [List.getD, List.getElem?_eq_getElem hl]
  exact ⟨r, h1, h2, by rw [e]; exact List.getElem?_eq_getElem hl, by rw [e]; exact h3 _ (List.getElem_mem hl)⟩
end Go.Proofs.YtdcmbdghnkgghaaDoor.M

namespace Go.Proofs.YtdcmbdghnkgghaaDoor.M
set_option linter.unusedVariables false
/-- What a stripe has: its four blocks, which are noughts together; each cell that is there has its own. -/
structure Has (l : List Bs) (s : Nat) (D : List Bs) : Prop where
  len : l.length = 4
  dlen : D.length = 4
  blk : Blocks4 D
  zero : xorAll D = zero4
  ok : ∀ d, d < 4 → okC l s d = true → (readC (l.getD d []) d s).1 = D.getD d []
theorem list4 {α : Type} {D : List α} (h : D.length = 4) : ∃ a b c d, D = [a, b, c, d] := by
  match D, h with
  | [a, b, c, d], _ => exact ⟨a, b, c, d, rfl⟩
/-- What it has is told, where one at most is none. -/
theorem has_good {l D : List Bs} {s i : Nat} (h : Has l s D) (hi : badL l s = [i]) : goodTo l s l.length = D.eraseIdx i := by
  obtain ⟨h1, h2, h3⟩ := one_bad hi
  have hl := h.len
  rw [hl] at h1 h3
  obtain ⟨a, b, c, d, hD⟩ := list4 h.dlen
  have ok := h.ok
  have e0 := fun hne => ok 0 (by decide) (h3 0 (by decide) hne)
  have e1 := fun hne => ok 1 (by decide) (h3 1 (by decide) hne)
  have e2 := fun hne => ok 2 (by decide) (h3 2 (by decide) hne)
  have e3 := fun hne => ok 3 (by decide) (h3 3 (by decide) hne)
  have g0 := fun hne => h3 0 (by decide) hne
  have g1 := fun hne => h3 1 (by decide) hne
  have g2 := fun hne => h3 2 (by decide) hne
  have g3 := fun hne => h3 3 (by decide) hne
  rw [hD] at e0 e1 e2 e3 ⊢
  unfold goodTo
  rw [hl, show List.range 4 = [0, 1, 2, 3] from rfl]
  match i, h1 with
  | 0, _ => simp [h2, g1, g2, g3]; exact ⟨e1 (by decide), e2 (by decide), e3 (by decide)⟩
  | 1, _ => simp [h2, g0, g2, g3]; exact ⟨e0 (by decide), e2 (by decide), e3 (by decide)⟩
  | 2, _ => simp [h2, g0, g1, g3]; exact ⟨e0 (by decide), e1 (by decide), e3 (by decide)⟩
  | 3, _ => simp [h2, g0, g1, g2]; exact ⟨e0 (by decide), e1 (by decide), e2 (by decide)⟩
theorem has_dat {l D : List Bs} {s : Nat} (h : Has l s D) (hb : ¬ 1 < (badL l s).length) : dataL l s = (D, 0) := by
  unfold dataL
  rw [if_neg hb]
  congr 1
  apply List.ext_getElem
  · rw [datTo_len, h.len, h.dlen]
  · intro i hi hj
    have hil : i < l.length := by rw [datTo_len] at hi; exact hi
    have hi4 : i < 4 := by rw [← h.len]; exact hil
    have hDi : D.getD i [] = D[i] := by simp [List.getD, List.getElem?_eq_getElem hj]
    cases hk : okC l s i with
    | true =>
      have := h.ok i hi4 hk
      rw [hDi] at this
      rw [← this]
      simp [datTo, hk]
    | false =>
      have hs := bad_single hb hil hk
      rw [← xor_others h.blk hj h.zero, ← has_good h hs]
      simp [datTo, hk]
/-- Cells of what it has. -/
theorem make_get {D : List Bs} (s : Nat) {d : Nat} (hd : d < D.length) : (makeL D s).getD d [] = cellB d s (D.getD d []) := by
  unfold makeL makeTo
  simp [List.getD, hd]
theorem make_read {D : List Bs} {s : Nat} (hD : D.length = 4) (h4 : Blocks4 D) (hs : s < 3) {d : Nat} (hd : d < 4) : readC ((makeL D s).getD d []) d s = (D.getD d [], 0) := by
  rw [make_get s (by rw [hD]; exact hd)]
  exact readC_cellB d s (by have hl : d < D.length := by rw [hD]; exact hd
                            simp [List.getD, List.getElem?_eq_getElem hl]; exact h4 _ (List.getElem_mem hl)) (by omega) (by omega)
theorem has_make {D : List Bs} {s : Nat} (hD : D.length = 4) (h4 : Blocks4 D) (hz : xorAll D = zero4) (hs : s < 3) : Has (makeL D s) s D ∧ badL (makeL D s) s = [] := by
  have hl : (makeL D s).length = 4 := by rw [makeL_len, hD]
  refine ⟨⟨hl, hD, h4, hz, fun d hd _ => by rw [make_read hD h4 hs hd]⟩, ?_⟩
  unfold badL
  rw [hl, List.filter_eq_nil_iff]
  intro d hd
  have hd4 : d < 4 := by simpa using hd
  unfold okC
  rw [make_read hD h4 hs hd4]
  simp
theorem make_lens {D : List Bs} (h4 : Blocks4 D) (s : Nat) : ∀ c ∈ makeL D s, c.length ≤ 8 := by
  intro c hc
  unfold makeL makeTo at hc
  simp only [List.mem_map, List.mem_range] at hc
  obtain ⟨d, hd, rfl⟩ := hc
  rw [cellB_length]
  have : (D.getD d []).length = 4 := by simp [List.getD, List.getElem?_eq_getElem hd]; exact h4 _ (List.getElem_mem hd)
  omega
/-! ### cells that are put -/
theorem setA_len (D : List (List Bs)) (d s : Nat) (b : Bs) : (setA D d s b).length = D.length := by unfold setA; rw [List.length_set]
theorem shape_setA {D : List (List Bs)} (h : Shape D) (d s : Nat) {b : Bs} (hb : b.length ≤ 8) : Shape (setA D d s b) := by
  unfold setA
  refine ⟨by rw [List.length_set]; exact h.1, fun r hr => ?_⟩
  rcases List.mem_or_eq_of_mem_set hr with hr | rfl
  · exact h.2 r hr
  · by_cases hd : d < 4
    · obtain ⟨r, _, h2, h3, h4⟩ := h.row hd
      rw [h4]
      refine ⟨by rw [List.length_set]; exact h2, fun c hc => ?_⟩
      rcases List.mem_or_eq_of_mem_set hc with hc | rfl
      · exact h3 c hc
      · exact hb
    · rw [List.set_eq_of_length_le (by rw [h.1]; omega)] at hr
      have : D.getD d [] = [] := by simp [List.getD, List.getElem?_eq_none (show D.length ≤ d by rw [h.1]; omega)]
      rw [this] at hr ⊢
      exact h.2 _ hr
theorem cellAt_set {D : List (List Bs)} (h : Shape D) {d s : Nat} (hd : d < 4) (hs : s < 3) (b : Bs) (d' s' : Nat) : cellAt (setA D d s b) d' s' = if d' = d ∧ s' = s then b else cellAt D d' s' := by
  obtain ⟨r, h1, h2, _, h4⟩ := h.row hd
  have hl : d < D.length := by rw [h.1]; exact hd
  unfold cellAt setA
  rw [h4]
  by_cases hdd : d' = d
  · subst hdd
    have e : (D.set d' (r.set s b)).getD d' [] = r.set s b := by simp [List.getD, List.getElem?_set_self hl]
    rw [e, h4]
    by_cases hss : s' = s
    · subst hss
      rw [if_pos ⟨rfl, rfl⟩]
      simp [List.getD, List.getElem?_set_self (show s' < r.length by omega)]
    · rw [if_neg (fun e => hss e.2)]
      simp [List.getD, List.getElem?_set_ne (Ne.symm hss)]
  · rw [if_neg (fun e => hdd e.1)]
    simp [List.getD, List.getElem?_set_ne (Ne.symm hdd)]
theorem cells_ext {D E : List (List Bs)} (hD : D.length = 4) (hE : E.length = 4) {s : Nat} (h : ∀ d, d < 4 → cellAt D d s = cellAt E d s) : cellsA D s = cellsA E s := by
  apply List.ext_getElem (by rw [cellsA_len, cellsA_len, hD, hE])
  intro i h1 h2
  have hi : i < 4 := by rw [cellsA_len, hD] at h1; exact h1
  have a1 := cellsA_get D s i
  have a2 := cellsA_get E s i
  have := h i hi
  rw [← a1, ← a2] at this
  simpa [List.getD, List.getElem?_eq_getElem h1, List.getElem?_eq_getElem h2] using this
theorem putTo_next (D : List (List Bs)) (s : Nat) (l : List Bs) (k : Nat) : putTo D s l (k + 1) = setA (putTo D s l k) k s (l.getD k []) := by unfold putTo; rw [List.range_succ]; simp
theorem putTo_shape {D : List (List Bs)} (h : Shape D) (s : Nat) {l : List Bs} (hl : ∀ c ∈ l, c.length ≤ 8) (k : Nat) : Shape (putTo D s l k) := by
  induction k with
  | zero => exact h
  | succ k ih =>
    rw [putTo_next]
    refine shape_setA ih k s ?_
    by_cases hk : k < l.length
    · simp [List.getD, List.getElem?_eq_getElem hk]; exact hl _ (List.getElem_mem hk)
    · simp [List.getD, List.getElem?_eq_none (show l.length ≤ k by omega)]
theorem putTo_cell {D : List (List Bs)} (h : Shape D) {s : Nat} (hs : s < 3) {l : List Bs} (hl : ∀ c ∈ l, c.length ≤ 8) {k : Nat} (hk : k ≤ 4) (d' s' : Nat) : cellAt (putTo D s l k) d' s' = if d' < k ∧ s' = s then l.getD d' [] else cellAt D d' s' := by
  induction k with
  | zero => rw [if_neg (by omega)]; rfl
  | succ k ih =>
    rw [putTo_next, cellAt_set (putTo_shape h s hl k) (by omega) hs, ih (by omega)]
    by_cases h1 : d' = k
    · subst h1
      by_cases h2 : s' = s
      · rw [if_pos ⟨rfl, h2⟩, if_pos ⟨by omega, h2⟩]
      · rw [if_neg (fun e => h2 e.2), if_neg (fun e => h2 e.2), if_neg (fun e => h2 e.2)]
    · rw [if_neg (fun e => h1 e.1)]
      by_cases h2 : d' < k ∧ s' = s
      · rw [if_pos h2, if_pos ⟨by omega, h2.2⟩]
      · rw [if_neg h2, if_neg (fun e => h2 ⟨by omega, e.2⟩)]
theorem shape_ext {D E : List (List Bs)} (hD : Shape D) (hE : Shape E) (h : ∀ d s, d < 4 → s < 3 → cellAt D d s = cellAt E d s) : D = E := by
  apply List.ext_getElem (by rw [hD.1, hE.1])
  intro i h1 h2
  have hi : i < 4 := by rw [hD.1] at h1; exact h1
  have r1 := hD.2 _ (List.getElem_mem h1)
  have r2 := hE.2 _ (List.getElem_mem h2)
  apply List.ext_getElem (by rw [r1.1, r2.1])
  intro j g1 g2
  have := h i j hi (by rw [r1.1] at g1; exact g1)
  unfold cellAt at this
  simpa [List.getD, List.getElem?_eq_getElem h1, List.getElem?_eq_getElem h2, List.getElem?_eq_getElem g1, List.getElem?_eq_getElem g2] using this
theorem put_cells {D : List (List Bs)} (h : Shape D) {s : Nat} (hs : s < 3) {l : List Bs} (h4 : l.length = 4) (hl : ∀ c ∈ l, c.length ≤ 8) : cellsA (putTo D s l 4) s = l := by
  have hlen : (cellsA (putTo D s l 4) s).length = 4 := by rw [cellsA_len, (putTo_shape h s hl 4).1]
  apply List.ext_getElem (by rw [hlen, h4])
  intro i h1 h2
  have hi : i < 4 := by rw [hlen] at h1; exact h1
  have a1 := cellsA_get (putTo D s l 4) s i
  rw [putTo_cell h hs hl (Nat.le_refl 4), if_pos ⟨hi, rfl⟩] at a1
  simpa [List.getD, List.getElem?_eq_getElem h1, List.getElem?_eq_getElem h2] using a1
theorem put_others {D : List (List Bs)} (h : Shape D) {s : Nat} (hs : s < 3) {l : List Bs} (hl : ∀ c ∈ l, c.length ≤ 8) {k : Nat} (hk : k ≤ 4) {t : Nat} (ht : t ≠ s) : cellsA (putTo D s l k) t = cellsA D t :=
  cells_ext (putTo_shape h s hl k).1 h.1 fun d _ => by rw [putTo_cell h hs hl hk, if_neg (fun e => ht e.2)]
theorem putTo_twice {D : List (List Bs)} (h : Shape D) {s : Nat} (hs : s < 3) {l : List Bs} (hl : ∀ c ∈ l, c.length ≤ 8) {k : Nat} (hk : k ≤ 4) : putTo (putTo D s l k) s l 4 = putTo D s l 4 :=
  shape_ext (putTo_shape (putTo_shape h s hl k) s hl 4) (putTo_shape h s hl 4) fun d t hd _ => by
    rw [putTo_cell (putTo_shape h s hl k) hs hl (Nat.le_refl 4), putTo_cell h hs hl (Nat.le_refl 4), putTo_cell h hs hl hk]
    by_cases ht : t = s
    · rw [if_pos ⟨hd, ht⟩, if_pos ⟨hd, ht⟩]
    · rw [if_neg (fun e => ht e.2), if_neg (fun e => ht e.2), if_neg (fun e => ht e.2)]
/-! ### a plan -/
theorem whereN_ne {n : Nat} (hn : n < 9) : whereN n ≠ 3 - n / 3 ∧ whereN n < 4 := by unfold whereN; split <;> omega
theorem whereN_inj {n m : Nat} (hn : n < 9) (hm : m < 9) (hs : n / 3 = m / 3) (h : whereN n = whereN m) : n = m := by
  unfold whereN at h; split at h <;> split at h <;> omega
theorem blocks_set {D : List Bs} (h : Blocks4 D) {i : Nat} {b : Bs} (hb : b.length = 4) : Blocks4 (D.set i b) := fun c hc => by
  rcases List.mem_or_eq_of_mem_set hc with hc | rfl
  · exact h c hc
  · exact hb
theorem blocks_get {D : List Bs} (h : Blocks4 D) {i : Nat} (hi : i < D.length) : (D.getD i []).length = 4 := by
  simp [List.getD, List.getElem?_eq_getElem hi]; exact h _ (List.getElem_mem hi)
/-- The blocks behind a deed, without what they are together. -/
def planE (data : List Bs) (d : Deed) : List Bs :=
  if d.kind = 1 then data.set (whereN d.n.toNat) d.data
  else (data.set (whereN d.n.toNat) (data.getD (whereN d.m.toNat) [])).set (whereN d.m.toNat) (data.getD (whereN d.n.toNat) [])
theorem planData_eq (data : List Bs) (d : Deed) : planData data d = (planE data d).set (3 - d.n.toNat / 3) (xorAll ((planE data d).eraseIdx (3 - d.n.toNat / 3))) := rfl
theorem planE_len (D : List Bs) (d : Deed) : (planE D d).length = D.length := by unfold planE; split <;> simp
theorem planE_blocks {D : List Bs} {d : Deed} (hr : wrongI d = 0) (hD : D.length = 4) (h4 : Blocks4 D) : Blocks4 (planE D d) := by
  obtain ⟨⟨n0, n1⟩, hq⟩ := wrong_ok hr
  have wn := (whereN_ne (n := d.n.toNat) (by omega)).2
  unfold planE
  rcases hq with ⟨hk, _, hl⟩ | ⟨hk, ⟨m0, m1⟩, _, _⟩
  · rw [if_pos hk]; exact blocks_set h4 hl
  · rw [if_neg (by omega)]
    have wm := (whereN_ne (n := d.m.toNat) (by omega)).2
    exact blocks_set (blocks_set h4 (blocks_get h4 (by omega))) (blocks_get h4 (by omega))
theorem plan_zero {D : List Bs} {d : Deed} (hr : wrongI d = 0) (hD : D.length = 4) (h4 : Blocks4 D) : (planData D d).length = 4 ∧ Blocks4 (planData D d) ∧ xorAll (planData D d) = zero4 := by
  obtain ⟨⟨n0, n1⟩, hq⟩ := wrong_ok hr
  have he := planE_blocks hr hD h4
  have hel : (planE D d).length = 4 := by rw [planE_len, hD]
  have hb := blocks_set he (i := 3 - d.n.toNat / 3) (xorAll_length ((planE D d).eraseIdx (3 - d.n.toNat / 3)))
  rw [planData_eq]
  refine ⟨by rw [List.length_set, hel], hb, ?_⟩
  have hk : 3 - d.n.toNat / 3 < ((planE D d).set (3 - d.n.toNat / 3) (xorAll ((planE D d).eraseIdx (3 - d.n.toNat / 3)))).length := by rw [List.length_set, hel]; omega
  have h := xorAll_eraseIdx hb hk
  rw [List.getElem_set_self, List.eraseIdx_set_eq, xorTwo_self] at h
  exact h.symm
/-- .. and what it has at a block's place. -/
theorem plan_get {D : List Bs} {d : Deed} (hr : wrongI d = 0) (hD : D.length = 4) {n : Nat} (hn : n < 9) (hs : n / 3 = d.n.toNat / 3) :
    (planData D d).getD (whereN n) [] = if d.kind = 1 ∧ (n : Int) = d.n then d.data else if d.kind = 2 ∧ (n : Int) = d.n then D.getD (whereN d.m.toNat) [] else if d.kind = 2 ∧ (n : Int) = d.m then D.getD (whereN d.n.toNat) [] else D.getD (whereN n) [] := by
  obtain ⟨⟨n0, n1⟩, hq⟩ := wrong_ok hr
  obtain ⟨hne, hw⟩ := whereN_ne hn
  have hne' : 3 - d.n.toNat / 3 ≠ whereN n := by rw [← hs]; exact fun e => hne e.symm
  have hnn : d.n.toNat < 9 := by omega
  have e1 : (planData D d).getD (whereN n) [] = (planE D d).getD (whereN n) [] := by
    rw [planData_eq]; simp [List.getD, List.getElem?_set_ne hne']
  rw [e1]
  unfold planE
  rcases hq with ⟨hk, _, _⟩ | ⟨hk, ⟨m0, m1⟩, hnm, _⟩
  · rw [if_pos hk]
    by_cases h : (n : Int) = d.n
    · have : whereN d.n.toNat = whereN n := by rw [← h]; simp
      rw [if_pos ⟨hk, h⟩, this]
      simp [List.getD, List.getElem?_set_self (show whereN n < D.length by omega)]
    · rw [if_neg (fun e => h e.2), if_neg (fun e => h e.2), if_neg (by omega)]
      have : whereN d.n.toNat ≠ whereN n := fun e => h (by have := whereN_inj hnn hn hs.symm e; omega)
      simp [List.getD, List.getElem?_set_ne this]
  · rw [if_neg (by omega), if_neg (by omega)]
    have hmm : d.m.toNat < 9 := by omega
    have hms : d.m.toNat / 3 = d.n.toNat / 3 := by omega
    by_cases hm : (n : Int) = d.m
    · have hwm : whereN d.m.toNat = whereN n := by rw [← hm]; simp
      have e2 : ((D.set (whereN d.n.toNat) (D.getD (whereN d.m.toNat) [])).set (whereN d.m.toNat) (D.getD (whereN d.n.toNat) [])).getD (whereN n) [] = D.getD (whereN d.n.toNat) [] := by
        rw [hwm]
        simp only [List.getD]
        rw [List.getElem?_set_self (by rw [List.length_set]; omega)]
        rfl
      rw [e2]
      by_cases h : (n : Int) = d.n
      · rw [if_pos ⟨hk, h⟩, ← hm, ← h]
      · rw [if_neg (fun e => h e.2), if_pos ⟨hk, hm⟩]
    · have hwm : whereN d.m.toNat ≠ whereN n := fun e => hm (by have := whereN_inj hmm hn (by omega) e; omega)
      rw [if_neg (c := d.kind = 2 ∧ (n : Int) = d.m) (fun e => hm e.2)]
      by_cases h : (n : Int) = d.n
      · have : whereN d.n.toNat = whereN n := by rw [← h]; simp
        rw [if_pos ⟨hk, h⟩, this]
        simp only [List.getD]
        rw [List.getElem?_set_ne hwm, List.getElem?_set_self (by omega)]
        rfl
      · rw [if_neg (fun e => h e.2)]
        have hwn : whereN d.n.toNat ≠ whereN n := fun e => h (by have := whereN_inj hnn hn hs.symm e; omega)
        simp only [List.getD]
        rw [List.getElem?_set_ne hwm, List.getElem?_set_ne hwn]
end Go.Proofs.YtdcmbdghnkgghaaDoor.M

namespace Go.Proofs.YtdcmbdghnkgghaaDoor.M
set_option linter.unusedVariables false
/-- An array that has in each stripe four blocks that are noughts together, and no intent. -/
structure Good (a : Arr) (Q : Nat → List Bs) : Prop where
  shape : Shape a.disks
  none_ : a.ints = []
  has : ∀ s, s < 3 → Has (cellsA a.disks s) s (Q s)
/-- Of each stripe one cell at most is none. -/
def Calm (a : Arr) : Prop := ∀ s, s < 3 → (badL (cellsA a.disks s) s).length ≤ 1
theorem worst_le {D : List (List Bs)} {n : Nat} : worstA D ≤ n ↔ ∀ s, s < 3 → (badL (cellsA D s) s).length ≤ n := by
  unfold worstA worstTo
  rw [show List.range 3 = [0, 1, 2] from rfl]
  simp only [List.foldl_cons, List.foldl_nil]
  constructor
  · intro h s hs
    match s, hs with
    | 0, _ => omega
    | 1, _ => omega
    | 2, _ => omega
  · intro h
    have h0 := h 0 (by decide)
    have h1 := h 1 (by decide)
    have h2 := h 2 (by decide)
    omega
theorem calm_iff {a : Arr} : worstA a.disks ≤ 1 ↔ Calm a := worst_le
def blocksQ (Q : Nat → List Bs) : List Bs := (List.range 9).map fun n => (Q (n / 3)).getD (whereN n) []
theorem blocksQ_len (Q : Nat → List Bs) : (blocksQ Q).length = 9 := by simp [blocksQ]
theorem blocksQ_get (Q : Nat → List Bs) {n : Nat} (hn : n < 9) : (blocksQ Q).getD n [] = (Q (n / 3)).getD (whereN n) [] := by
  unfold blocksQ; simp [List.getD, hn]
/-- A block, read. -/
theorem good_read {a : Arr} {Q : Nat → List Bs} (h : Good a Q) {n : Nat} (hn : n < 9) (hc : (badL (cellsA a.disks (n / 3)) (n / 3)).length ≤ 1) : readA a.disks (n : Nat) = ((Q (n / 3)).getD (whereN n) [], 0) := by
  have hs : n / 3 < 3 := by omega
  have hw := (whereN_ne hn).2
  have H := h.has _ hs
  unfold readA
  rw [if_neg (by simp; omega)]
  simp only [Int.toNat_natCast]
  have hg := cellsA_get a.disks (n / 3) (whereN n)
  by_cases hk : (readC (cellAt a.disks (whereN n) (n / 3)) (whereN n : Nat) (n / 3 : Nat)).2 = 0
  · rw [if_pos hk]
    have hok : okC (cellsA a.disks (n / 3)) (n / 3) (whereN n) = true := okC_true.2 (by rw [hg]; exact hk)
    have := H.ok _ hw hok
    rw [hg] at this
    rw [this]
  · rw [if_neg hk, has_dat H (by omega)]
    rfl
theorem good_blocks {a : Arr} {Q : Nat → List Bs} (h : Good a Q) (hc : Calm a) : blocksA a.disks = (blocksQ Q, 0) := by
  have hr : ∀ n, n < 9 → readA a.disks (n : Nat) = ((Q (n / 3)).getD (whereN n) [], 0) := fun n hn => good_read h hn (hc _ (by omega))
  have he : blocksE a.disks = 0 := by
    unfold blocksE
    have : ((List.range 9).map fun n => (readA a.disks (n : Nat)).2).find? (fun e => e ≠ 0) = none := by
      rw [List.find?_eq_none]
      intro e he
      simp only [List.mem_map, List.mem_range] at he
      obtain ⟨j, hj, rfl⟩ := he
      simp [hr j hj]
    rw [this]
    rfl
  unfold blocksA
  rw [if_pos he]
  congr 1
  unfold blocksTo blocksQ
  apply List.map_congr_left
  intro n hn
  rw [hr n (by simpa using hn)]
/-! ### a deed -/
def doQ (Q : Nat → List Bs) (d : Deed) : Nat → List Bs := fun s => if s = d.n.toNat / 3 then planData (Q s) d else Q s
theorem doQ_blocks {Q : Nat → List Bs} {d : Deed} (hr : wrongI d = 0) (hQ : ∀ s, s < 3 → (Q s).length = 4) : blocksQ (doQ Q d) = doD (blocksQ Q) d := by
  obtain ⟨⟨n0, n1⟩, hq⟩ := wrong_ok hr
  refine ext9 (blocksQ_len _) (by rw [doD_length, blocksQ_len]) fun i hi => ?_
  rw [blocksQ_get _ hi, doD_get _ d hr (blocksQ_len Q) i hi, blocksQ_get Q hi]
  unfold doQ
  have hn9 : d.n.toNat < 9 := by omega
  by_cases hs : i / 3 = d.n.toNat / 3
  · rw [if_pos hs, plan_get hr (hQ _ (by omega)) hi hs, blocksQ_get Q hn9, hs]
    rcases hq with ⟨hk, _⟩ | ⟨hk, ⟨m0, m1⟩, hnm, _⟩
    · simp [hk]
    · have hm9 : d.m.toNat < 9 := by omega
      have hms : d.m.toNat / 3 = d.n.toNat / 3 := by omega
      rw [blocksQ_get Q hm9, hms]
  · rw [if_neg hs]
    have h1 : (i : Int) ≠ d.n := by omega
    rw [if_neg (fun e => h1 e.2), if_neg (fun e => h1 e.2), if_neg]
    rintro ⟨hk, hm⟩
    rcases hq with ⟨hk', _⟩ | ⟨_, ⟨m0, m1⟩, hnm, _⟩
    · omega
    · omega
/-- All of an intent's cells are written, and it is gone. -/
def putA (a : Arr) (i : Int × List Bs) : Arr := ⟨putTo a.disks i.1.toNat i.2 4, []⟩
theorem write6P (a : Arr) (i : Int × List Bs) : writeA a i 6 = putA a i := rfl
theorem write6R (a : Arr) (i : Int × List Bs) : writeR a i 6 = putA a i := rfl
theorem cells_le {k : Int → Nat} (hk : k = cellsP ∨ k = cellsR) (n : Int) : k n ≤ 4 ∧ (5 < n → k n = 4) ∧ (n ≤ 0 → k n = 0 ∨ k n = 4) := by
  rcases hk with rfl | rfl
  · unfold cellsP; split <;> omega
  · unfold cellsR; omega
theorem mount_none (a : Arr) (h : a.ints = []) : mountA a = a := by unfold mountA mountTo; rw [h]; rfl
/-- However many of its writes are done: nothing, or all. -/
theorem mount_half {k : Int → Nat} (hk : k = cellsP ∨ k = cellsR) {a : Arr} (hs : Shape a.disks) (h : a.ints = []) {i : Int × List Bs} (hi : i.1.toNat < 3) (hl : ∀ c ∈ i.2, c.length ≤ 8) (n : Int) : mountA (writeK k a i n) = a ∨ mountA (writeK k a i n) = putA a i := by
  obtain ⟨k1, k2, k3⟩ := cells_le hk n
  by_cases h5 : 5 < n
  · right
    rw [mount_none _ (by unfold writeK; simp [h5])]
    unfold writeK putA
    simp [h5, k2 h5]
  · by_cases h0 : 0 < n
    · right
      have e : (writeK k a i n).ints = [i] := by unfold writeK; simp [h5, h0]
      unfold mountA mountTo
      rw [e]
      show writeA (writeK k a i n) i 6 = _
      rw [write6P]
      unfold putA writeK
      simp only [putTo_twice hs hi hl k1]
    · have e : (writeK k a i n).ints = [] := by unfold writeK; simp [h5, h0, h]
      rw [mount_none _ e]
      rcases k3 (by omega) with hz | hz
      · left
        unfold writeK
        rw [hz]
        simp [h5, h0]
        cases a
        rfl
      · right
        unfold writeK putA
        rw [hz]
        simp [h5, h0, h]
theorem plan_wrong {D : List (List Bs)} {d : Deed} (h : wrongI d ≠ 0) : planA D d = ((0, []), wrongI d) := by unfold planA; rw [if_pos h]
theorem plan_lost {D : List (List Bs)} {d : Deed} (h : wrongI d = 0) (h2 : (dataL (cellsA D (d.n.toNat / 3)) (d.n.toNat / 3)).2 ≠ 0) : planA D d = ((0, []), (dataL (cellsA D (d.n.toNat / 3)) (d.n.toNat / 3)).2) := by
  unfold planA
  rw [if_neg (by simpa using h)]
  simp only []
  rw [if_pos h2]
theorem plan_had {D : List (List Bs)} {d : Deed} (h : wrongI d = 0) (h2 : (dataL (cellsA D (d.n.toNat / 3)) (d.n.toNat / 3)).2 = 0) : planA D d = ((((d.n.toNat / 3 : Nat) : Int), makeL (planData (dataL (cellsA D (d.n.toNat / 3)) (d.n.toNat / 3)).1 d) (d.n.toNat / 3)), 0) := by
  unfold planA
  rw [if_neg (by simpa using h)]
  simp only []
  rw [if_neg (by simpa using h2)]
theorem data_lost9 {l : List Bs} {s : Nat} (h : (dataL l s).2 ≠ 0) : (dataL l s) = ([], 9) ∧ 1 < (badL l s).length := by
  unfold dataL at h ⊢
  split
  · rename_i hb; exact ⟨rfl, hb⟩
  · rename_i hb; rw [if_neg hb] at h; simp at h
theorem data_blocks {l : List Bs} {s : Nat} (h : (dataL l s).2 = 0) : (dataL l s).1.length = l.length ∧ Blocks4 (dataL l s).1 ∧ ¬ 1 < (badL l s).length := by
  unfold dataL at h ⊢
  split
  · rename_i hb; rw [if_pos hb] at h; simp at h
  · rename_i hb; exact ⟨datTo_len _ _ _, datTo_blocks _ _ _, hb⟩
/-- An intent: a stripe's number, four cells that are no longer than they may be. -/
theorem plan_form {D : List (List Bs)} (hs : Shape D) {d : Deed} (h : (planA D d).2 = 0) : wrongI d = 0 ∧ (planA D d).1.1 = ((d.n.toNat / 3 : Nat) : Int) ∧ (planA D d).1.1.toNat < 3 ∧ (planA D d).1.2.length = 4 ∧ ∀ c ∈ (planA D d).1.2, c.length ≤ 8 := by
  have hw : wrongI d = 0 := by
    by_cases hw : wrongI d = 0
    · exact hw
    · rw [plan_wrong hw] at h; exact h
  have hd : (dataL (cellsA D (d.n.toNat / 3)) (d.n.toNat / 3)).2 = 0 := by
    by_cases hd : (dataL (cellsA D (d.n.toNat / 3)) (d.n.toNat / 3)).2 = 0
    · exact hd
    · rw [plan_lost hw hd] at h; exact absurd h hd
  obtain ⟨b1, b2, _⟩ := data_blocks hd
  rw [cellsA_len, hs.1] at b1
  obtain ⟨p1, p2, _⟩ := plan_zero hw b1 b2
  obtain ⟨⟨n0, n1⟩, _⟩ := wrong_ok hw
  rw [plan_had hw hd]
  exact ⟨hw, rfl, by simp; omega, by rw [makeL_len, p1], make_lens p2 _⟩
theorem put_shape {a : Arr} (hs : Shape a.disks) {i : Int × List Bs} (hl : ∀ c ∈ i.2, c.length ≤ 8) : Shape (putA a i).disks := putTo_shape hs _ hl 4
/-- A stripe's cells are put. -/
theorem good_put {a : Arr} {Q : Nat → List Bs} (h : Good a Q) {s : Nat} (hs : s < 3) {D : List Bs} (hD : D.length = 4) (h4 : Blocks4 D) (hz : xorAll D = zero4) :
    Good (putA a ((s : Int), makeL D s)) (fun t => if t = s then D else Q t) ∧ badL (cellsA (putA a ((s : Int), makeL D s)).disks s) s = [] ∧ ∀ t, t ≠ s → cellsA (putA a ((s : Int), makeL D s)).disks t = cellsA a.disks t := by
  have hml : (makeL D s).length = 4 := by rw [makeL_len, hD]
  have e1 : cellsA (putA a ((s : Int), makeL D s)).disks s = makeL D s := put_cells h.shape hs hml (make_lens h4 s)
  have e2 : ∀ t, t ≠ s → cellsA (putA a ((s : Int), makeL D s)).disks t = cellsA a.disks t := fun t ht => put_others h.shape hs (make_lens h4 s) (Nat.le_refl 4) ht
  obtain ⟨m1, m2⟩ := has_make hD h4 hz hs
  refine ⟨⟨putTo_shape h.shape s (make_lens h4 s) 4, rfl, fun t ht => ?_⟩, by rw [e1]; exact m2, e2⟩
  by_cases hts : t = s
  · subst hts
    rw [e1]
    simpa using m1
  · rw [e2 t hts]
    simp only [if_neg hts]
    exact h.has t ht
theorem good_plan {a : Arr} {Q : Nat → List Bs} (h : Good a Q) {d : Deed} (hr : wrongI d = 0) (hc : (badL (cellsA a.disks (d.n.toNat / 3)) (d.n.toNat / 3)).length ≤ 1) : planA a.disks d = ((((d.n.toNat / 3 : Nat) : Int), makeL (planData (Q (d.n.toNat / 3)) d) (d.n.toNat / 3)), 0) := by
  obtain ⟨⟨n0, n1⟩, _⟩ := wrong_ok hr
  have e := has_dat (h.has (d.n.toNat / 3) (by omega)) (by omega)
  rw [plan_had hr (by rw [e]), e]
theorem good_do {a : Arr} {Q : Nat → List Bs} (h : Good a Q) {d : Deed} (hr : wrongI d = 0) : Good (putA a (((d.n.toNat / 3 : Nat) : Int), makeL (planData (Q (d.n.toNat / 3)) d) (d.n.toNat / 3))) (doQ Q d) ∧ (Calm a → Calm (putA a (((d.n.toNat / 3 : Nat) : Int), makeL (planData (Q (d.n.toNat / 3)) d) (d.n.toNat / 3)))) := by
  obtain ⟨⟨n0, n1⟩, _⟩ := wrong_ok hr
  have hs : d.n.toNat / 3 < 3 := by omega
  have H := h.has _ hs
  obtain ⟨p1, p2, p3⟩ := plan_zero hr H.dlen H.blk
  obtain ⟨g1, g2, g3⟩ := good_put h hs p1 p2 p3
  refine ⟨?_, fun hc s hs' => ?_⟩
  · have e : doQ Q d = fun t => if t = d.n.toNat / 3 then planData (Q (d.n.toNat / 3)) d else Q t := by
      funext t
      unfold doQ
      split
      · rename_i ht; rw [ht]
      · rfl
    rw [e]
    exact g1
  · by_cases hts : s = d.n.toNat / 3
    · rw [hts, g2]; decide
    · rw [g3 s hts]; exact hc s hs'
/-! ### harm -/
theorem turn_ne (c : UInt8) : c ≠ c ^^^ 1 := by
  intro h
  have : c ^^^ (c ^^^ 1) = c ^^^ c := by rw [← h]
  rw [← UInt8.xor_assoc, UInt8.xor_self, UInt8.zero_xor] at this
  exact absurd this (by decide)
theorem rot_no_ {a : Arr} {d s n : Int} (h : thereB d s = false ∨ n < 0 ∨ ((cellAt a.disks d.toNat s.toNat).length : Int) ≤ n) : rotA a d s n = (a, 6) := by unfold rotA; rw [if_pos h]
/-- A byte rots, or nothing does. -/
theorem rot_cases (a : Arr) (d s n : Int) : rotA a d s n = (a, 6) ∨ ∃ d' s' n' : Nat, d = d' ∧ s = s' ∧ n = n' ∧ d' < 4 ∧ s' < 3 ∧ n' < (cellAt a.disks d' s').length ∧ rotA a d s n = (⟨setA a.disks d' s' ((cellAt a.disks d' s').set n' ((cellAt a.disks d' s').getD n' 0 ^^^ 1)), a.ints⟩, 0) := by
  by_cases h : thereB d s = false ∨ n < 0 ∨ ((cellAt a.disks d.toNat s.toNat).length : Int) ≤ n
  · exact .inl (rot_no_ h)
  · right
    simp only [not_or, Bool.not_eq_false] at h
    obtain ⟨h1, h2, h3⟩ := h
    obtain ⟨t1, t2, t3, t4⟩ := thereB_iff.1 h1
    refine ⟨d.toNat, s.toNat, n.toNat, by omega, by omega, by omega, by omega, by omega, by omega, ?_⟩
    unfold rotA
    rw [if_neg]
    simp only [not_or, Bool.not_eq_false]
    exact ⟨h1, h2, h3⟩
/-- A cell that is there, of which a byte is turned, is none. -/
theorem rot_bad {b : Bs} {d s n : Nat} (h : (readC b d s).2 = 0) (hn : n < b.length) : (readC (b.set n (b.getD n 0 ^^^ 1)) d s).2 ≠ 0 := by
  obtain ⟨h1, h2, h3, h4⟩ := readC_ok (x := (readC b d s).1) (by rw [← h])
  have hg : b.getD n 0 = b[n] := by simp [List.getD, List.getElem?_eq_getElem hn]
  rw [hg]
  obtain ⟨x, hx⟩ : ∃ x, (readC b d s).1 = x := ⟨_, rfl⟩
  rw [hx] at h1 h2
  subst h1
  rw [readC_set d s hn (turn_ne _)]
  decide
theorem set_cells {D : List (List Bs)} (h : Shape D) {d s : Nat} (hd : d < 4) (hs : s < 3) (b : Bs) (hb : b.length ≤ 8) {t : Nat} (ht : t ≠ s) : cellsA (setA D d s b) t = cellsA D t :=
  cells_ext (shape_setA h d s hb).1 h.1 fun d' _ => by rw [cellAt_set h hd hs, if_neg (fun e => ht e.2)]
theorem set_okC {D : List (List Bs)} (h : Shape D) {d s : Nat} (hd : d < 4) (hs : s < 3) (b : Bs) (e : Nat) : okC (cellsA (setA D d s b) s) s e = if e = d then ((readC b d s).2 == 0) else okC (cellsA D s) s e := by
  unfold okC
  rw [cellsA_get, cellsA_get, cellAt_set h hd hs]
  by_cases he : e = d
  · subst he; simp
  · rw [if_neg (fun x => he x.1), if_neg he]
/-- A cell that becomes none keeps what a stripe has. -/
theorem has_worse {D : List (List Bs)} {Q : List Bs} (h : Shape D) {d s : Nat} (hd : d < 4) (hs : s < 3) {b : Bs} (hb : b.length ≤ 8) (hbad : (readC b d s).2 ≠ 0) (H : Has (cellsA D s) s Q) : Has (cellsA (setA D d s b) s) s Q := by
  refine ⟨by rw [cellsA_len, setA_len, h.1], H.dlen, H.blk, H.zero, fun e he hok => ?_⟩
  rw [set_okC h hd hs] at hok
  by_cases hed : e = d
  · rw [if_pos hed] at hok
    exact absurd (by simpa using hok) hbad
  · rw [if_neg hed] at hok
    have := H.ok e he hok
    rw [cellsA_get] at this ⊢
    rw [cellAt_set h hd hs, if_neg (fun x => hed x.1)]
    exact this
theorem good_set {a : Arr} {Q : Nat → List Bs} (h : Good a Q) {d s : Nat} (hd : d < 4) (hs : s < 3) {b : Bs} (hb : b.length ≤ 8) (hbad : (readC b d s).2 ≠ 0) : Good ⟨setA a.disks d s b, a.ints⟩ Q :=
  ⟨shape_setA h.shape d s hb, h.none_, fun t ht => by
    by_cases hts : t = s
    · subst hts; exact has_worse h.shape hd hs hb hbad (h.has t ht)
    · show Has (cellsA (setA a.disks d s b) t) t (Q t)
      rw [set_cells h.shape hd hs b hb hts]; exact h.has t ht⟩
theorem cell_le {D : List (List Bs)} (h : Shape D) {d s : Nat} (hd : d < 4) (hs : s < 3) : (cellAt D d s).length ≤ 8 := by
  obtain ⟨_, _, _, _, h8⟩ := h.cell hd hs; exact h8
theorem good_rot {a : Arr} {Q : Nat → List Bs} (h : Good a Q) {d s n : Int} (hok : ∀ d' s' : Nat, d = d' → s = s' → d' < 4 → s' < 3 → (readC (cellAt a.disks d' s') d' s').2 = 0) : Good (rotA a d s n).1 Q := by
  rcases rot_cases a d s n with e | ⟨d', s', n', rfl, rfl, rfl, hd, hs, hn, e⟩
  · rw [e]; exact h
  · rw [e]
    exact good_set h hd hs (by rw [List.length_set]; exact cell_le h.shape hd hs) (rot_bad (hok d' s' rfl rfl hd hs) hn)
theorem gone_cell {D : List (List Bs)} (h : Shape D) {d : Nat} (hd : d < 4) (e s : Nat) (hs : s < 3) : cellAt (D.set d [[], [], []]) e s = if e = d then [] else cellAt D e s := by
  unfold cellAt
  have hl : d < D.length := by rw [h.1]; exact hd
  by_cases he : e = d
  · subst he
    rw [if_pos rfl]
    simp only [List.getD, List.getElem?_set_self hl, Option.getD_some]
    match s, hs with
    | 0, _ => rfl
    | 1, _ => rfl
    | 2, _ => rfl
  · rw [if_neg he]
    simp [List.getD, List.getElem?_set_ne (Ne.symm he)]
theorem gone_shape {D : List (List Bs)} (h : Shape D) (d : Nat) : Shape (D.set d [[], [], []]) := by
  refine ⟨by rw [List.length_set]; exact h.1, fun r hr => ?_⟩
  rcases List.mem_or_eq_of_mem_set hr with hr | rfl
  · exact h.2 r hr
  · exact ⟨rfl, by simp⟩
theorem readC_nil (d s : Int) : readC [] d s = ([], 7) := by unfold readC; simp
theorem gone_okC {D : List (List Bs)} (h : Shape D) {d : Nat} (hd : d < 4) {s : Nat} (hs : s < 3) (e : Nat) : okC (cellsA (D.set d [[], [], []]) s) s e = if e = d then false else okC (cellsA D s) s e := by
  unfold okC
  rw [cellsA_get, cellsA_get, gone_cell h hd e s hs]
  by_cases he : e = d
  · rw [if_pos he, if_pos he, readC_nil]; rfl
  · rw [if_neg he, if_neg he]
theorem gone_cases (a : Arr) (d : Int) : goneA a d = (a, 6) ∨ ∃ d' : Nat, d = d' ∧ d' < 4 ∧ goneA a d = (⟨a.disks.set d' [[], [], []], a.ints⟩, 0) := by
  unfold goneA
  by_cases h : d < 0 ∨ 4 ≤ d
  · rw [if_pos h]; exact .inl rfl
  · rw [if_neg h]; exact .inr ⟨d.toNat, by omega, by omega, rfl⟩
theorem good_gone_ {a : Arr} {Q : Nat → List Bs} (h : Good a Q) {d : Nat} (hd : d < 4) : Good ⟨a.disks.set d [[], [], []], a.ints⟩ Q :=
  ⟨gone_shape h.shape d, h.none_, fun s hs => by
    have H := h.has s hs
    refine ⟨by rw [cellsA_len, List.length_set, h.shape.1], H.dlen, H.blk, H.zero, fun e he hok => ?_⟩
    rw [gone_okC h.shape hd hs] at hok
    by_cases hed : e = d
    · rw [if_pos hed] at hok; cases hok
    · rw [if_neg hed] at hok
      have := H.ok e he hok
      rw [cellsA_get] at this ⊢
      rw [gone_cell h.shape hd e s hs, if_neg hed]
      exact this⟩
theorem good_gone {a : Arr} {Q : Nat → List Bs} (h : Good a Q) (d : Int) : Good (goneA a d).1 Q := by
  rcases gone_cases a d with e | ⟨d', _, hd, e⟩
  · rw [e]; exact h
  · rw [e]; exact good_gone_ h hd
/-! ### mending -/
theorem mend_out {a : Arr} {s : Int} (h : s < 0 ∨ 3 ≤ s) : mendA a s = (a, 0, 3) := by unfold mendA; rw [if_pos h]
theorem mend_lost {a : Arr} {s : Nat} (hs : s < 3) (h : (dataL (cellsA a.disks s) s).2 ≠ 0) : mendA a (s : Nat) = (a, (((badL (cellsA a.disks s) s).length : Nat) : Int), (dataL (cellsA a.disks s) s).2) := by
  unfold mendA
  rw [if_neg (by omega)]
  simp only [Int.toNat_natCast]
  rw [if_pos h]
theorem mend_had {a : Arr} {s : Nat} (hs : s < 3) (h : (dataL (cellsA a.disks s) s).2 = 0) : mendA a (s : Nat) = (⟨putTo a.disks s (makeL (dataL (cellsA a.disks s) s).1 s) 4, a.ints⟩, (((badL (cellsA a.disks s) s).length : Nat) : Int), 0) := by
  unfold mendA
  rw [if_neg (by omega)]
  simp only [Int.toNat_natCast]
  rw [if_neg (by simpa using h)]
theorem good_mended {a : Arr} {Q : Nat → List Bs} (h : Good a Q) {s : Nat} (hs : s < 3) (hc : (badL (cellsA a.disks s) s).length ≤ 1) : mendA a (s : Nat) = (putA a ((s : Int), makeL (Q s) s), (((badL (cellsA a.disks s) s).length : Nat) : Int), 0) := by
  have e := has_dat (h.has s hs) (by omega)
  rw [mend_had hs (by rw [e]), e]
  simp [putA, h.none_]
theorem good_mend {a : Arr} {Q : Nat → List Bs} (h : Good a Q) (s : Int) : Good (mendA a s).1 Q := by
  by_cases hs : s < 0 ∨ 3 ≤ s
  · rw [mend_out hs]; exact h
  · obtain ⟨s, rfl⟩ := Int.eq_ofNat_of_zero_le (show 0 ≤ s by omega)
    have hs3 : s < 3 := by omega
    by_cases hd : (dataL (cellsA a.disks s) s).2 = 0
    · have hb := (data_blocks hd).2.2
      rw [good_mended h hs3 (by omega)]
      have H := h.has s hs3
      have g := (good_put h hs3 H.dlen H.blk H.zero).1
      have e : (fun t => if t = s then Q s else Q t) = Q := by
        funext t
        by_cases ht : t = s
        · rw [if_pos ht, ht]
        · rw [if_neg ht]
      rw [e] at g
      exact g
    · rw [mend_lost hs3 hd]; exact h
/-! ### a step -/
theorem good_new : Good newA (fun _ => List.replicate 4 zero4) ∧ Calm newA := by
  have hz : xorAll (List.replicate 4 zero4) = zero4 := by decide
  have h4 : Blocks4 (List.replicate 4 zero4) := fun b hb => by rw [List.eq_of_mem_replicate hb]; rfl
  have hm : ∀ s, s < 3 → cellsA newD s = makeL (List.replicate 4 zero4) s := by
    intro s hs
    match s, hs with
    | 0, _ => rfl
    | 1, _ => rfl
    | 2, _ => rfl
  have hsh : Shape newD := by
    refine ⟨rfl, fun r hr => ?_⟩
    unfold newD at hr
    simp only [List.mem_map, List.mem_range] at hr
    obtain ⟨d, _, rfl⟩ := hr
    refine ⟨by simp, fun c hc => ?_⟩
    simp only [List.mem_map, List.mem_range] at hc
    obtain ⟨s, _, rfl⟩ := hc
    rw [cellB_length]
    decide
  refine ⟨⟨hsh, rfl, fun s hs => ?_⟩, fun s hs => ?_⟩
  · show Has (cellsA newD s) s _
    rw [hm s hs]; exact (has_make rfl h4 hz hs).1
  · show (badL (cellsA newD s) s).length ≤ 1
    rw [hm s hs, (has_make rfl h4 hz hs).2]; decide
/-- Behind a step, of what is well: what may be there. -/
theorem good_step {k : Int → Nat} (hk : k = cellsP ∨ k = cellsR) {a : Arr} {Q : Nat → List Bs} (h : Good a Q) (hc : Calm a) {s : Step} (hg : againA a s = false) : ∃ Q', Good (stepK k a s).1 Q' ∧ blocksQ Q' ∈ listsA (blocksQ Q) s := by
  have hQ : ∀ s, s < 3 → (Q s).length = 4 := fun s hs => (h.has s hs).dlen
  have hself : s.kind ≠ 1 → s.kind ≠ 2 → blocksQ Q ∈ listsA (blocksQ Q) s := fun h1 h2 => by
    unfold listsA
    by_cases hw : wrongI s.deed ≠ 0
    · rw [if_pos hw]; simp
    · rw [if_neg hw, if_neg h1, if_neg h2]; simp
  unfold stepK
  by_cases h1 : s.kind = 1
  · rw [if_pos h1]
    unfold doA
    by_cases hw : wrongI s.deed = 0
    · obtain ⟨⟨n0, n1⟩, _⟩ := wrong_ok hw
      rw [good_plan h hw (hc _ (by omega))]
      rw [if_neg (by simp), write6P]
      refine ⟨_, (good_do h hw).1, ?_⟩
      unfold listsA
      rw [if_neg (by simpa using hw), if_pos h1, doQ_blocks hw hQ]
      simp
    · rw [plan_wrong hw, if_pos hw]
      refine ⟨Q, h, ?_⟩
      unfold listsA
      rw [if_pos hw]
      simp
  · rw [if_neg h1]
    by_cases h2 : s.kind = 2
    · rw [if_pos h2]
      by_cases hw : wrongI s.deed = 0
      · obtain ⟨⟨n0, n1⟩, _⟩ := wrong_ok hw
        have hn3 : s.deed.n.toNat / 3 < 3 := by omega
        have H := h.has _ hn3
        obtain ⟨p1, p2, p3⟩ := plan_zero hw H.dlen H.blk
        rw [good_plan h hw (hc _ hn3)]
        rw [if_neg (by simp)]
        rcases mount_half hk h.shape h.none_ (i := (((s.deed.n.toNat / 3 : Nat) : Int), makeL (planData (Q (s.deed.n.toNat / 3)) s.deed) (s.deed.n.toNat / 3))) (by simp; omega) (make_lens p2 _) s.n with e | e
        · refine ⟨Q, by simp only [e]; exact h, ?_⟩
          unfold listsA
          rw [if_neg (by simpa using hw), if_neg h1, if_pos h2]
          simp
        · refine ⟨_, by simp only [e]; exact (good_do h hw).1, ?_⟩
          unfold listsA
          rw [if_neg (by simpa using hw), if_neg h1, if_pos h2, doQ_blocks hw hQ]
          simp
      · rw [plan_wrong hw, if_pos hw]
        refine ⟨Q, h, ?_⟩
        unfold listsA
        rw [if_pos hw]
        simp
    · rw [if_neg h2]
      by_cases h3 : s.kind = 3
      · rw [if_pos h3]
        split
        · exact ⟨Q, h, hself h1 h2⟩
        · rename_i hn
          refine ⟨Q, good_rot h fun d' s' e1 e2 hd hs => ?_, hself h1 h2⟩
          unfold againA at hg
          have g1 : (s.kind == 3) = true := by simpa using h3
          have g2 : s.n ≤ 11 := by omega
          have e1' : s.n.toNat / 3 = d' := by omega
          have e2' : s.n.toNat % 3 = s' := by omega
          have g0 : 0 ≤ s.n := by omega
          simp only [g1, g0, g2, decide_true, Bool.true_and, Bool.not_eq_false', beq_iff_eq] at hg
          rw [e1', e2', e1, e2] at hg
          exact hg
      · rw [if_neg h3]
        by_cases h4 : s.kind = 4
        · rw [if_pos h4]; exact ⟨Q, good_gone h _, hself h1 h2⟩
        · rw [if_neg h4]
          by_cases h5 : s.kind = 5
          · rw [if_pos h5]; exact ⟨Q, good_mend h _, hself h1 h2⟩
          · rw [if_neg h5]; exact ⟨Q, h, hself h1 h2⟩
/-- As long as they are played gently. -/
theorem good_gently (n : Nat) (a : Arr) (l : List Step) {Q : Nat → List Bs} (h : Good a Q) (hc : Calm a) : ∃ Q', Good (gently n a l) Q' ∧ Calm (gently n a l) := by
  induction n generalizing a l Q with
  | zero => exact ⟨Q, by unfold gently; exact h, by unfold gently; exact hc⟩
  | succ n ih =>
    cases l with
    | nil => exact ⟨Q, by unfold gently; exact h, by unfold gently; exact hc⟩
    | cons s l =>
      unfold gently
      split
      · exact ⟨Q, h, hc⟩
      · rename_i hg
        simp only [Bool.or_eq_true, decide_eq_true_eq, not_or, Bool.not_eq_true] at hg
        obtain ⟨Q', h', _⟩ := good_step (.inr rfl) h hc hg.1
        exact ih _ _ h' (calm_iff.1 (by have := hg.2; unfold stepR at this; omega))
theorem good_gentlyA (l : List Step) : ∃ Q, Good (gentlyA l) Q ∧ Calm (gentlyA l) := good_gently 100 newA l good_new.1 good_new.2
end Go.Proofs.YtdcmbdghnkgghaaDoor.M

namespace Go.Proofs.YtdcmbdghnkgghaaDoor.M
set_option linter.unusedVariables false
theorem turn_back (c : UInt8) : (c ^^^ 1) ^^^ 1 = c := by rw [UInt8.xor_assoc, UInt8.xor_self, UInt8.xor_zero]
theorem set_set_same {b : Bs} {n : Nat} (hn : n < b.length) : (b.set n (b.getD n 0 ^^^ 1)).set n ((b.set n (b.getD n 0 ^^^ 1)).getD n 0 ^^^ 1) = b := by
  have e : (b.set n (b.getD n 0 ^^^ 1)).getD n 0 = b.getD n 0 ^^^ 1 := by simp [List.getD, List.getElem?_set_self hn]
  rw [e, turn_back, List.set_set]
  have : b.getD n 0 = b[n] := by simp [List.getD, List.getElem?_eq_getElem hn]
  rw [this, List.set_getElem_self]
theorem setA_same {D : List (List Bs)} (h : Shape D) {d s : Nat} (hd : d < 4) (hs : s < 3) (b : Bs) (hb : b.length ≤ 8) : setA (setA D d s b) d s (cellAt D d s) = D :=
  shape_ext (shape_setA (shape_setA h d s hb) d s (cell_le h hd hs)) h fun d' s' _ _ => by
    rw [cellAt_set (shape_setA h d s hb) hd hs, cellAt_set h hd hs]
    by_cases hh : d' = d ∧ s' = s
    · rw [if_pos hh, hh.1, hh.2]
    · rw [if_neg hh, if_neg hh]
/-- A byte that rots twice. -/
theorem rot_back {a : Arr} (h : Shape a.disks) (d s n : Int) : rotA (rotA a d s n).1 d s n = (a, (rotA a d s n).2) ∧ ((rotA a d s n).2 = 0 → (rotA a d s n).1 ≠ a) ∧ Shape (rotA a d s n).1.disks := by
  rcases rot_cases a d s n with e | ⟨d', s', n', rfl, rfl, rfl, hd, hs, hn, e⟩
  · rw [e]
    exact ⟨e, fun h => by simp at h, h⟩
  · have hb : ((cellAt a.disks d' s').set n' ((cellAt a.disks d' s').getD n' 0 ^^^ 1)).length ≤ 8 := by rw [List.length_set]; exact cell_le h hd hs
    have hc : cellAt (setA a.disks d' s' ((cellAt a.disks d' s').set n' ((cellAt a.disks d' s').getD n' 0 ^^^ 1))) d' s' = (cellAt a.disks d' s').set n' ((cellAt a.disks d' s').getD n' 0 ^^^ 1) := by
      rw [cellAt_set h hd hs, if_pos ⟨rfl, rfl⟩]
    rw [e]
    refine ⟨?_, fun _ => ?_, shape_setA h _ _ hb⟩
    · simp only []
      unfold rotA
      rw [if_neg]
      · simp only [Int.toNat_natCast]
        rw [hc, set_set_same hn, setA_same h hd hs _ hb]
      · simp only [Int.toNat_natCast, not_or, Bool.not_eq_false]
        rw [hc, List.length_set]
        exact ⟨thereB_iff.2 ⟨by omega, by omega, by omega, by omega⟩, by omega, by omega⟩
    · intro he
      have h1 : setA a.disks d' s' ((cellAt a.disks d' s').set n' ((cellAt a.disks d' s').getD n' 0 ^^^ 1)) = a.disks := congrArg Arr.disks he
      rw [h1] at hc
      have h2 : (cellAt a.disks d' s')[n'] = ((cellAt a.disks d' s').set n' ((cellAt a.disks d' s').getD n' 0 ^^^ 1))[n']'(by rw [List.length_set]; exact hn) := by
        congr 1
      rw [List.getElem_set_self] at h2
      have h3 : (cellAt a.disks d' s').getD n' 0 = (cellAt a.disks d' s')[n'] := by simp [List.getD, List.getElem?_eq_getElem hn]
      rw [h3] at h2
      exact turn_ne _ h2
theorem gone_shape' {a : Arr} (h : Shape a.disks) (d : Int) : Shape (goneA a d).1.disks := by
  rcases gone_cases a d with e | ⟨d', _, _, e⟩
  · rw [e]; exact h
  · rw [e]; exact gone_shape h d'
theorem gone_back (a : Arr) (d : Int) : goneA (goneA a d).1 d = goneA a d := by
  unfold goneA
  by_cases h : d < 0 ∨ 4 ≤ d
  · rw [if_pos h, if_pos h]
  · rw [if_neg h, if_neg h]
    simp
/-! ### one harm -/
theorem bad_four {l : List Bs} {s : Nat} (hl : l.length = 4) : badL l s = ([0, 1, 2, 3].filter fun d => !okC l s d) := by
  unfold badL; rw [hl]; rfl
theorem all_ok {l : List Bs} {s : Nat} (h : (badL l s).length ≤ 0) {d : Nat} (hd : d < l.length) : okC l s d = true := by
  cases hk : okC l s d with
  | true => rfl
  | false =>
    have := mem_badL.2 ⟨hd, hk⟩
    rw [List.eq_nil_of_length_eq_zero (Nat.le_zero.1 h)] at this
    cases this
theorem bad_only {l : List Bs} {s d : Nat} (hl : l.length = 4) (hd : d < 4) (h : ∀ e, e < 4 → okC l s e = if e = d then false else true) : badL l s = [d] := by
  rw [bad_four hl]
  have h0 := h 0 (by decide)
  have h1 := h 1 (by decide)
  have h2 := h 2 (by decide)
  have h3 := h 3 (by decide)
  match d, hd with
  | 0, _ => simp at h0 h1 h2 h3; simp [h0, h1, h2, h3]
  | 1, _ => simp at h0 h1 h2 h3; simp [h0, h1, h2, h3]
  | 2, _ => simp at h0 h1 h2 h3; simp [h0, h1, h2, h3]
  | 3, _ => simp at h0 h1 h2 h3; simp [h0, h1, h2, h3]
theorem one_rot {a : Arr} {Q : Nat → List Bs} (h : Good a Q) (h0 : worstA a.disks = 0) {d s n : Int} (he : (rotA a d s n).2 = 0) : Good (rotA a d s n).1 Q ∧ worstA (rotA a d s n).1.disks = 1 := by
  have hz := worst_le.1 (Nat.le_of_eq h0)
  have hok : ∀ d s, d < 4 → s < 3 → (readC (cellAt a.disks d s) d s).2 = 0 := fun d s hd hs => by
    have := all_ok (hz s hs) (d := d) (by rw [cellsA_len, h.shape.1]; exact hd)
    rw [okC_true, cellsA_get] at this
    exact this
  refine ⟨good_rot h fun d' s' _ _ hd hs => hok d' s' hd hs, ?_⟩
  rcases rot_cases a d s n with e | ⟨d', s', n', rfl, rfl, rfl, hd, hs, hn, e⟩
  · rw [e] at he; simp at he
  · rw [e]
    have hb : ((cellAt a.disks d' s').set n' ((cellAt a.disks d' s').getD n' 0 ^^^ 1)).length ≤ 8 := by rw [List.length_set]; exact cell_le h.shape hd hs
    have hbad := rot_bad (hok d' s' hd hs) hn
    generalize (cellAt a.disks d' s').set n' ((cellAt a.disks d' s').getD n' 0 ^^^ 1) = b at *
    have e1 : badL (cellsA (setA a.disks d' s' b) s') s' = [d'] := bad_only (by rw [cellsA_len, setA_len, h.shape.1]) hd fun e he => by
      rw [set_okC h.shape hd hs]
      by_cases hed : e = d'
      · rw [if_pos hed, if_pos hed]; simpa using hbad
      · rw [if_neg hed, if_neg hed]
        exact all_ok (hz s' hs) (by rw [cellsA_len, h.shape.1]; exact he)
    have up : worstA (setA a.disks d' s' b) ≤ 1 := worst_le.2 fun t ht => by
      by_cases hts : t = s'
      · rw [hts, e1]; exact Nat.le_refl _
      · rw [set_cells h.shape hd hs b hb hts]
        have := hz t ht
        omega
    have lo : ¬ worstA (setA a.disks d' s' b) ≤ 0 := fun hw => by
      have := worst_le.1 hw s' hs
      rw [e1] at this
      simp at this
    show worstA (setA a.disks d' s' b) = 1
    omega
theorem one_gone {a : Arr} {Q : Nat → List Bs} (h : Good a Q) (h0 : worstA a.disks = 0) {d : Int} (he : (goneA a d).2 = 0) : Good (goneA a d).1 Q ∧ worstA (goneA a d).1.disks = 1 := by
  have hz := worst_le.1 (Nat.le_of_eq h0)
  refine ⟨good_gone h d, ?_⟩
  rcases gone_cases a d with e | ⟨d', _, hd, e⟩
  · rw [e] at he; simp at he
  · rw [e]
    have e1 : ∀ s, s < 3 → badL (cellsA (a.disks.set d' [[], [], []]) s) s = [d'] := fun s hs => bad_only (by rw [cellsA_len, List.length_set, h.shape.1]) hd fun e he => by
      rw [gone_okC h.shape hd hs]
      by_cases hed : e = d'
      · rw [if_pos hed, if_pos hed]
      · rw [if_neg hed, if_neg hed]
        exact all_ok (hz s hs) (by rw [cellsA_len, h.shape.1]; exact he)
    have up : worstA (a.disks.set d' [[], [], []]) ≤ 1 := worst_le.2 fun t ht => by rw [e1 t ht]; exact Nat.le_refl _
    have lo : ¬ worstA (a.disks.set d' [[], [], []]) ≤ 0 := fun hw => by
      have := worst_le.1 hw 0 (by decide)
      rw [e1 0 (by decide)] at this
      simp at this
    show worstA (a.disks.set d' [[], [], []]) = 1
    omega
/-! ### all mended -/
theorem mendsTo_next (a : Arr) (k : Nat) : mendsTo a (k + 1) = (mendA (mendsTo a k) (k : Nat)).1 := by unfold mendsTo; rw [List.range_succ]; simp
theorem mendNs_next (a : Arr) (k : Nat) : mendNs a (k + 1) = mendNs a k ++ [(mendA (mendsTo a k) (k : Nat)).2.1] := by unfold mendNs; rw [List.range_succ]; simp
theorem mendNs_len (a : Arr) (k : Nat) : (mendNs a k).length = k := by simp [mendNs]
theorem mend_shape {a : Arr} (h : Shape a.disks) (s : Int) : Shape (mendA a s).1.disks := by
  by_cases hs : s < 0 ∨ 3 ≤ s
  · rw [mend_out hs]; exact h
  · obtain ⟨s, rfl⟩ := Int.eq_ofNat_of_zero_le (show 0 ≤ s by omega)
    have hs3 : s < 3 := by omega
    by_cases hd : (dataL (cellsA a.disks s) s).2 = 0
    · rw [mend_had hs3 hd]
      exact putTo_shape h s (make_lens (data_blocks hd).2.1 s) 4
    · rw [mend_lost hs3 hd]; exact h
theorem mends_shape {a : Arr} (h : Shape a.disks) (k : Nat) : Shape (mendsTo a k).disks := by
  induction k with
  | zero => exact h
  | succ k ih => rw [mendsTo_next]; exact mend_shape ih _
/-- Behind mending so many stripes, of what is calm. -/
theorem good_mends {a : Arr} {Q : Nat → List Bs} (h : Good a Q) (hc : Calm a) (k : Nat) (hk : k ≤ 3) : Good (mendsTo a k) Q ∧ Calm (mendsTo a k) ∧ ∀ s, s < k → badL (cellsA (mendsTo a k).disks s) s = [] := by
  induction k with
  | zero => exact ⟨h, hc, fun s hs => by omega⟩
  | succ k ih =>
    obtain ⟨g1, g2, g3⟩ := ih (by omega)
    rw [mendsTo_next]
    have hk3 : k < 3 := by omega
    refine ⟨good_mend g1 _, ?_⟩
    rw [good_mended g1 hk3 (g2 k hk3)]
    have H := g1.has k hk3
    obtain ⟨_, p2, p3⟩ := good_put g1 hk3 H.dlen H.blk H.zero
    refine ⟨fun s hs => ?_, fun s hs => ?_⟩
    · by_cases hsk : s = k
      · rw [hsk, p2]; decide
      · rw [p3 s hsk]; exact g2 s hs
    · by_cases hsk : s = k
      · rw [hsk, p2]
      · rw [p3 s hsk]; exact g3 s (by omega)
/-- What is well is as it was, mended. -/
theorem mend_well {a : Arr} {Q : Nat → List Bs} (h : Good a Q) {s : Nat} (hs : s < 3) (hb : badL (cellsA a.disks s) s = []) : mendA a (s : Nat) = (a, 0, 0) := by
  rw [good_mended h hs (by rw [hb]; decide), hb]
  have H := h.has s hs
  have e : putTo a.disks s (makeL (Q s) s) 4 = a.disks := shape_ext (putTo_shape h.shape s (make_lens H.blk s) 4) h.shape fun d t hd ht => by
    rw [putTo_cell h.shape hs (make_lens H.blk s) (Nat.le_refl 4)]
    by_cases hts : t = s
    · rw [if_pos ⟨hd, hts⟩, hts]
      have hdl : d < (Q s).length := by rw [H.dlen]; exact hd
      rw [make_get s hdl]
      have hok := all_ok (l := cellsA a.disks s) (s := s) (by rw [hb]; decide) (d := d) (by rw [cellsA_len, h.shape.1]; exact hd)
      have hr := H.ok d hd hok
      rw [okC_true] at hok
      rw [cellsA_get] at hok hr
      obtain ⟨r1, _⟩ := readC_ok (b := cellAt a.disks d s) (d := d) (s := s) (x := (Q s).getD d []) (by rw [← hr, ← hok])
      exact r1.symm
    · rw [if_neg (fun x => hts x.2)]
  unfold putA
  simp only [Int.toNat_natCast, e, List.length_nil, Int.natCast_zero]
  have := h.none_
  cases a
  simp only at this
  rw [this]
theorem mends_well {a : Arr} {Q : Nat → List Bs} (h : Good a Q) (hb : ∀ s, s < 3 → badL (cellsA a.disks s) s = []) (k : Nat) (hk : k ≤ 3) : mendsTo a k = a ∧ mendNs a k = List.replicate k 0 := by
  induction k with
  | zero => exact ⟨rfl, rfl⟩
  | succ k ih =>
    obtain ⟨i1, i2⟩ := ih (by omega)
    have e := mend_well h (s := k) (by omega) (hb k (by omega))
    rw [mendsTo_next, mendNs_next, i1, i2, e]
    refine ⟨rfl, ?_⟩
    rw [List.replicate_succ']
/-- What can't be mended is let be. -/
theorem mend_only {a : Arr} (h : Shape a.disks) (s : Int) : ((mendA a s).2.2 ≠ 0 → (mendA a s).1 = a ∧ ((mendA a s).2.2 = 3 ∨ 1 < (mendA a s).2.1)) ∧ ((mendA a s).2.2 = 0 → (∀ k : Nat, k < 3 → (k : Int) ≠ s → cellsA (mendA a s).1.disks k = cellsA a.disks k) ∧ (mendA a s).2.1 ≤ 1) := by
  by_cases hs : s < 0 ∨ 3 ≤ s
  · rw [mend_out hs]; simp
  · obtain ⟨s, rfl⟩ := Int.eq_ofNat_of_zero_le (show 0 ≤ s by omega)
    have hs3 : s < 3 := by omega
    by_cases hd : (dataL (cellsA a.disks s) s).2 = 0
    · obtain ⟨b1, b2, b3⟩ := data_blocks hd
      rw [mend_had hs3 hd]
      refine ⟨fun h => by simp at h, fun _ => ⟨fun k _ hks => put_others h hs3 (make_lens b2 s) (Nat.le_refl 4) (by omega), ?_⟩⟩
      simp only []
      omega
    · obtain ⟨d1, d2⟩ := data_lost9 hd
      rw [mend_lost hs3 hd]
      refine ⟨fun _ => ⟨rfl, .inr ?_⟩, fun h => absurd h hd⟩
      simp only []
      omega
end Go.Proofs.YtdcmbdghnkgghaaDoor.M

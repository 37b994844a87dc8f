/- Plain functions on lists of bytes: sums, seals, cells, xor, places; and their laws. No program in sight. -/
namespace Go.Proofs.Ytlbnkoahkfhimaa.M
set_option linter.unusedVariables false

abbrev Bs := List UInt8

/-! ### sums -/
def stepS (s : Nat) (c : UInt8) : Nat := (s * 151 + c.toNat + 1) % 65521
def sumOf (b : Bs) : Nat := b.foldl stepS 13
def sealB (b : Bs) : Bs := b ++ [UInt8.ofNat (sumOf b / 256), UInt8.ofNat (sumOf b)]
def sealedB (b : Bs) : Bool := decide (2 ≤ b.length) && (sealB (b.take (b.length - 2)) == b)

theorem stepS_lt (s : Nat) (c : UInt8) : stepS s c < 65521 := Nat.mod_lt _ (by decide)
theorem foldS_lt (b : Bs) (s : Nat) (h : s < 65521) : b.foldl stepS s < 65521 := by
  induction b generalizing s with
  | nil => exact h
  | cons c b ih => exact ih _ (stepS_lt s c)
theorem sumOf_lt (b : Bs) : sumOf b < 65521 := foldS_lt b 13 (by decide)

theorem stepS_inj {s t : Nat} {c : UInt8} (hs : s < 65521) (ht : t < 65521) (h : stepS s c = stepS t c) : s = t := by
  unfold stepS at h
  omega
theorem stepS_inj2 {s : Nat} {c d : UInt8} (h : stepS s c = stepS s d) : c = d := by
  unfold stepS at h
  have h1 := c.toNat_lt
  have h2 := d.toNat_lt
  apply UInt8.toNat_inj.1
  omega
theorem foldS_inj (b : Bs) {s t : Nat} (hs : s < 65521) (ht : t < 65521) (h : b.foldl stepS s = b.foldl stepS t) : s = t := by
  induction b generalizing s t with
  | nil => exact h
  | cons c b ih => exact stepS_inj hs ht (ih (stepS_lt _ _) (stepS_lt _ _) h)
/-- One byte turned turns the sum. -/
theorem foldS_set (b : Bs) (s i : Nat) (c : UInt8) (hs : s < 65521) (hi : i < b.length) (h : (b.set i c).foldl stepS s = b.foldl stepS s) : b[i] = c := by
  induction b generalizing s i with
  | nil => simp at hi
  | cons d b ih =>
    cases i with
    | zero =>
      simp only [List.set_cons_zero, List.foldl_cons] at h
      exact (stepS_inj2 (foldS_inj b (stepS_lt _ _) (stepS_lt _ _) h)).symm
    | succ i =>
      simp only [List.set_cons_succ, List.foldl_cons] at h
      simpa using ih (stepS s d) i (stepS_lt _ _) (by simpa using hi) h
theorem sumOf_set {b : Bs} {i : Nat} {c : UInt8} (hi : i < b.length) (h : sumOf (b.set i c) = sumOf b) : b[i] = c := foldS_set b 13 i c (by decide) hi h

theorem ofNat_two {m n : Nat} (hm : m < 65536) (hn : n < 65536) (h1 : UInt8.ofNat (m / 256) = UInt8.ofNat (n / 256)) (h2 : UInt8.ofNat m = UInt8.ofNat n) : m = n := by
  have e1 := congrArg UInt8.toNat h1
  have e2 := congrArg UInt8.toNat h2
  simp only [UInt8.toNat_ofNat'] at e1 e2
  omega

theorem sealB_length (b : Bs) : (sealB b).length = b.length + 2 := by simp [sealB]
theorem sealedB_sealB (b : Bs) : sealedB (sealB b) = true := by
  unfold sealedB
  simp [sealB_length]
  simp [sealB]
theorem sealB_take (b : Bs) : (sealB b).take b.length = b := by simp [sealB]
theorem sealedB_form {b : Bs} (h : sealedB b = true) : ∃ a, b = sealB a ∧ a.length + 2 = b.length := by
  unfold sealedB at h
  simp at h
  exact ⟨b.take (b.length - 2), h.2.symm, by simp; omega⟩
theorem sealB_inj {a b : Bs} (h : sealB a = sealB b) : a = b := by
  have hl : a.length = b.length := by have := congrArg List.length h; simpa [sealB_length] using this
  have := congrArg (List.take a.length) h
  rw [sealB_take, hl, sealB_take] at this
  exact this
/-- ONE BYTE TURNED IS FOUND. -/
theorem sealedB_set {b : Bs} {i : Nat} {c : UInt8} (hi : i < (sealB b).length) (hne : (sealB b)[i] ≠ c) : sealedB ((sealB b).set i c) = false := by
  cases hs : sealedB ((sealB b).set i c) with
  | false => rfl
  | true =>
    exfalso
    obtain ⟨a, ha, hl⟩ := sealedB_form hs
    simp [sealB_length] at hl
    rw [sealB_length] at hi
    by_cases hb : i < b.length
    · have h1 : (sealB b).set i c = b.set i c ++ [UInt8.ofNat (sumOf b / 256), UInt8.ofNat (sumOf b)] := by
        unfold sealB; rw [List.set_append_left _ _ hb]
      rw [h1] at ha
      unfold sealB at ha
      obtain ⟨e1, e2⟩ := List.append_inj ha (by simp [hl])
      simp at e2
      have e3 := ofNat_two (by have := sumOf_lt b; omega) (by have := sumOf_lt a; omega) e2.1 e2.2
      rw [← e1] at e3
      have e4 := sumOf_set hb e3.symm
      apply hne
      rw [← e4]
      simp [sealB, List.getElem_append_left hb]
    · have h1 : (sealB b).set i c = b ++ [UInt8.ofNat (sumOf b / 256), UInt8.ofNat (sumOf b)].set (i - b.length) c := by
        unfold sealB; rw [List.set_append_right _ _ (by omega)]
      rw [h1] at ha
      unfold sealB at ha
      obtain ⟨e1, e2⟩ := List.append_inj ha (by simp [hl])
      subst e1
      apply hne
      have hi' : i - b.length < ([UInt8.ofNat (sumOf b / 256), UInt8.ofNat (sumOf b)]).length := by simp; omega
      have e3 : ([UInt8.ofNat (sumOf b / 256), UInt8.ofNat (sumOf b)].set (i - b.length) c)[i - b.length]'(by simpa using hi') = c := by simp
      have e4 : (sealB b)[i]'(by rw [sealB_length]; omega) = ([UInt8.ofNat (sumOf b / 256), UInt8.ofNat (sumOf b)])[i - b.length]'hi' := by
        simp only [sealB]; rw [List.getElem_append_right (by omega)]
      rw [e4, ← e3]
      congr 1
      exact e2.symm

/-- A byte, as a number, out of a list. -/
def at8 (b : Bs) (j : Nat) : Int := ((b.getD j 0).toNat : Int)
theorem at8_lo (b : Bs) (j : Nat) : 0 ≤ at8 b j := by unfold at8; omega
theorem at8_hi (b : Bs) (j : Nat) : at8 b j ≤ 255 := by unfold at8; have := (b.getD j 0).toNat_lt; omega
theorem at8_get {b : Bs} {j : Nat} (h : j < b.length) : at8 b j = (b[j].toNat : Int) := by unfold at8; simp [h]
theorem at8_ext {a b : Bs} (hl : a.length = b.length) (h : ∀ j, j < a.length → at8 a j = at8 b j) : a = b := by
  apply List.ext_getElem hl
  intro i h1 h2
  have := h i h1
  rw [at8_get h1, at8_get h2] at this
  exact UInt8.toNat_inj.1 (by omega)
def sumI (b : Bs) (k : Nat) : Int := ((sumOf (b.take k) : Nat) : Int)
theorem sumI_zero (b : Bs) : sumI b 0 = 13 := rfl
theorem sumI_succ {b : Bs} {k : Nat} (h : k < b.length) : sumI b (k + 1) = (sumI b k * 151 + at8 b k + 1) % 65521 := by
  unfold sumI sumOf
  rw [List.take_succ_eq_append_getElem h, List.foldl_append, at8_get h]
  simp only [List.foldl_cons, List.foldl_nil, stepS]
  omega
theorem sumI_lo (b : Bs) (k : Nat) : 0 ≤ sumI b k := by unfold sumI; omega
theorem sumI_hi (b : Bs) (k : Nat) : sumI b k < 65521 := by unfold sumI; have := sumOf_lt (b.take k); omega
theorem sumI_all (b : Bs) : sumI b b.length = ((sumOf b : Nat) : Int) := by unfold sumI; rw [List.take_length]
theorem sealedB_at {b : Bs} (h : 2 ≤ b.length) : sealedB b = (at8 b (b.length - 2) == ((sumOf (b.take (b.length - 2)) / 256 : Nat) : Int) && at8 b (b.length - 1) == ((sumOf (b.take (b.length - 2)) % 256 : Nat) : Int)) := by
  have hlt := sumOf_lt (b.take (b.length - 2))
  generalize hs : sumOf (b.take (b.length - 2)) = s at *
  unfold sealedB sealB
  rw [hs]
  have hb : b = b.take (b.length - 2) ++ [b[b.length - 2], b[b.length - 1]] := by
    apply List.ext_getElem (by simp; omega)
    intro i h1 h2
    by_cases hi : i < b.length - 2
    · rw [List.getElem_append_left (by simp; omega)]; simp
    · rw [List.getElem_append_right (by simp; omega)]
      simp only [List.length_take]
      by_cases h3 : i = b.length - 2
      · subst h3; simp
      · have h4 : i = b.length - 1 := by omega
        subst h4
        have e : b.length - 1 - (b.length - 2) = 1 := by omega
        simp [e]
  rw [at8_get (show b.length - 2 < b.length by omega), at8_get (show b.length - 1 < b.length by omega)]
  rw [Bool.eq_iff_iff]
  simp only [Bool.and_eq_true, decide_eq_true_eq, beq_iff_eq]
  constructor
  · rintro ⟨_, h1⟩
    conv at h1 => rhs; rw [hb]
    have h2 := List.append_cancel_left h1
    simp only [List.cons.injEq, and_true] at h2
    rw [← h2.1, ← h2.2]
    refine ⟨?_, ?_⟩
    · rw [UInt8.toNat_ofNat']; omega
    · rw [UInt8.toNat_ofNat']
  · rintro ⟨h1, h2⟩
    refine ⟨h, ?_⟩
    conv => rhs; rw [hb]
    congr 1
    have e1 : UInt8.ofNat (s / 256) = b[b.length - 2] := by apply UInt8.toNat_inj.1; simp only [UInt8.toNat_ofNat']; omega
    have e2 : UInt8.ofNat s = b[b.length - 1] := by apply UInt8.toNat_inj.1; simp only [UInt8.toNat_ofNat']; omega
    rw [e1, e2]
end Go.Proofs.Ytlbnkoahkfhimaa.M

/- Blocks and deeds, in plain Lean: what is wrong with a deed, and what blocks are behind one. No program in sight. -/
import Derived.Test.YtlbnkoahkfhimaaPure2
namespace Go.Proofs.Ytlbnkoahkfhimaa.M
set_option linter.unusedVariables false
structure Deed where
  kind : Int
  n : Int
  m : Int
  data : Bs
abbrev InB (n : Int) : Prop := 0 ≤ n ∧ n < 9
def wrongI (d : Deed) : Int :=
  if d.kind = 1 then (if ¬ InB d.n ∨ d.m ≠ 0 then 3 else if d.data.length ≠ 4 then 4 else 0)
  else if d.kind = 2 then (if ¬ InB d.n ∨ ¬ InB d.m ∨ d.n / 3 ≠ d.m / 3 then 3 else if 0 < d.data.length then 4 else 0)
  else 1
def doD (l : List Bs) (d : Deed) : List Bs :=
  if d.kind = 1 then l.set d.n.toNat d.data
  else (l.set d.n.toNat (l.getD d.m.toNat [])).set d.m.toNat (l.getD d.n.toNat [])
def newB : List Bs := List.replicate 9 zero4
theorem doD_length (l : List Bs) (d : Deed) : (doD l d).length = l.length := by
  unfold doD
  split <;> simp
/-- What a right deed is. -/
theorem wrong_ok {d : Deed} (h : wrongI d = 0) : InB d.n ∧ (d.kind = 1 ∧ d.m = 0 ∧ d.data.length = 4 ∨ d.kind = 2 ∧ InB d.m ∧ d.n / 3 = d.m / 3 ∧ d.data.length = 0) := by
  unfold wrongI at h
  split at h
  · rename_i hk
    split at h
    · simp at h
    · rename_i h1
      split at h
      · simp at h
      · rename_i h2
        refine ⟨by by_cases hn : InB d.n; exact hn; exact absurd (.inl hn) h1, .inl ⟨hk, ?_, by omega⟩⟩
        by_cases hm : d.m = 0
        · exact hm
        · exact absurd (.inr hm) h1
  · split at h
    · rename_i hk
      split at h
      · simp at h
      · rename_i h1
        split at h
        · simp at h
        · rename_i h2
          refine ⟨by by_cases hn : InB d.n; exact hn; exact absurd (.inl hn) h1, .inr ⟨hk, ?_, ?_, by omega⟩⟩
          · by_cases hm : InB d.m
            · exact hm
            · exact absurd (.inr (.inl hm)) h1
          · by_cases hm : d.n / 3 = d.m / 3
            · exact hm
            · exact absurd (.inr (.inr hm)) h1
    · simp at h
/-- One of the blocks behind a deed. -/
theorem doD_get (l : List Bs) (d : Deed) (hr : wrongI d = 0) (hl : l.length = 9) (i : Nat) (hi : i < 9) :
    (doD l d).getD i [] = if d.kind = 1 ∧ (i : Int) = d.n then d.data else if d.kind = 2 ∧ (i : Int) = d.n then l.getD d.m.toNat [] else if d.kind = 2 ∧ (i : Int) = d.m then l.getD d.n.toNat [] else l.getD i [] := by
  obtain ⟨⟨n0, n1⟩, hk⟩ := wrong_ok hr
  unfold doD
  rcases hk with ⟨hk, _, _⟩ | ⟨hk, ⟨m0, m1⟩, _, _⟩
  · rw [if_pos hk]
    by_cases h : (i : Int) = d.n
    · obtain rfl : i = d.n.toNat := by omega
      rw [if_pos ⟨hk, h⟩]
      simp [List.getD, List.getElem?_set_self (show d.n.toNat < l.length by omega)]
    · rw [if_neg (by intro e; exact h e.2), if_neg (by intro e; omega), if_neg (by intro e; omega)]
      simp [List.getD, List.getElem?_set_ne (show d.n.toNat ≠ i by omega)]
  · rw [if_neg (by omega)]
    rw [if_neg (by intro e; omega)]
    by_cases h : (i : Int) = d.n
    · obtain rfl : i = d.n.toNat := by omega
      rw [if_pos ⟨hk, h⟩]
      by_cases hm : d.m = d.n
      · rw [hm]
        simp [List.getD, List.getElem?_set_self (show d.n.toNat < l.length by omega)]
      · simp [List.getD, List.getElem?_set_ne (show d.m.toNat ≠ d.n.toNat by omega), List.getElem?_set_self (show d.n.toNat < l.length by omega)]
    · rw [if_neg (by intro e; exact h e.2)]
      by_cases hm : (i : Int) = d.m
      · obtain rfl : i = d.m.toNat := by omega
        rw [if_pos ⟨hk, hm⟩]
        simp only [List.getD]
        rw [List.getElem?_set_self (by rw [List.length_set]; omega)]
        simp
      · rw [if_neg (by intro e; exact hm e.2)]
        simp [List.getD, List.getElem?_set_ne (show d.m.toNat ≠ i by omega), List.getElem?_set_ne (show d.n.toNat ≠ i by omega)]
end Go.Proofs.Ytlbnkoahkfhimaa.M

/- Plain functions: cells, at their places; and their laws. No program in sight. -/
import Derived.Test.YtlbnkoahkfhimaaPure2
namespace Go.Proofs.Ytlbnkoahkfhimaa.M
set_option linter.unusedVariables false

def thereB (d s : Int) : Bool := decide (0 ≤ d) && decide (d < 4) && decide (0 ≤ s) && decide (s < 3)
/-- A cell's bytes. -/
def cellB (d s : Nat) (x : Bs) : Bs := sealB (UInt8.ofNat d :: UInt8.ofNat s :: x)
/-- What bytes have at a place, and why not. -/
def readC (b : Bs) (d s : Int) : Bs × Int :=
  if b.length ≠ 8 ∨ sealedB b = false then ([], 7) else if at8 b 0 ≠ d ∨ at8 b 1 ≠ s then ([], 8) else ((b.drop 2).take 4, 0)

theorem thereB_iff {d s : Int} : thereB d s = true ↔ 0 ≤ d ∧ d < 4 ∧ 0 ≤ s ∧ s < 3 := by
  unfold thereB
  simp [and_assoc]
theorem cellB_length (d s : Nat) (x : Bs) : (cellB d s x).length = x.length + 4 := by
  unfold cellB; rw [sealB_length]; simp
theorem cellB_0 (d s : Nat) (x : Bs) (hd : d < 256) : at8 (cellB d s x) 0 = d := by
  unfold cellB sealB at8
  simp
  omega
theorem cellB_1 (d s : Nat) (x : Bs) (hs : s < 256) : at8 (cellB d s x) 1 = s := by
  unfold cellB sealB at8
  simp
  omega
theorem cellB_data (d s : Nat) {x : Bs} (hx : x.length = 4) : ((cellB d s x).drop 2).take 4 = x := by
  obtain ⟨a, b, c, e, rfl⟩ := len4 hx
  rfl
theorem readC_cellB (d s : Nat) {x : Bs} (hx : x.length = 4) (hd : d < 256) (hs : s < 256) : readC (cellB d s x) d s = (x, 0) := by
  unfold readC
  rw [if_neg, if_neg, cellB_data d s hx]
  · rw [cellB_0 d s x hd, cellB_1 d s x hs]; simp
  · rw [cellB_length, hx]
    unfold cellB
    rw [sealedB_sealB]
    simp
theorem readC_other (d s : Nat) {x : Bs} (hx : x.length = 4) (hd : d < 256) {o : Int} (ho : o ≠ d) : readC (cellB d s x) o s = ([], 8) := by
  unfold readC
  rw [if_neg, if_pos]
  · left; rw [cellB_0 d s x hd]; exact fun h => ho h.symm
  · rw [cellB_length, hx]
    unfold cellB
    rw [sealedB_sealB]
    simp
/-- One byte turned is found. -/
theorem readC_set (d s : Nat) {x : Bs} {i : Nat} {c : UInt8} (hi : i < (cellB d s x).length) (hne : (cellB d s x)[i] ≠ c) (d' s' : Int) : readC ((cellB d s x).set i c) d' s' = ([], 7) := by
  unfold readC
  rw [if_pos]
  right
  exact sealedB_set hi hne
/-- A cell that is read is that cell. -/
theorem readC_ok {b : Bs} {d s : Nat} {x : Bs} (h : readC b d s = (x, 0)) : b = cellB d s x ∧ x.length = 4 ∧ d < 256 ∧ s < 256 := by
  unfold readC at h
  split at h
  · simp at h
  · rename_i h1
    split at h
    · simp at h
    · rename_i h2
      simp only [not_or, Decidable.not_not, Bool.not_eq_false] at h1 h2
      obtain ⟨h1a, h1b⟩ := h1
      obtain ⟨h2a, h2b⟩ := h2
      obtain ⟨a, rfl, hl⟩ := sealedB_form h1b
      have ha : a.length = 6 := by omega
      match a, ha with
      | [p, q, r, t, u, v], _ =>
        have e1 : at8 (sealB [p, q, r, t, u, v]) 0 = (p.toNat : Int) := rfl
        have e2 : at8 (sealB [p, q, r, t, u, v]) 1 = (q.toNat : Int) := rfl
        rw [e1] at h2a
        rw [e2] at h2b
        have e3 : ((sealB [p, q, r, t, u, v]).drop 2).take 4 = [r, t, u, v] := rfl
        rw [e3] at h
        injection h with h _
        subst h
        have hp := p.toNat_lt
        have hq := q.toNat_lt
        have e4 : UInt8.ofNat d = p := by apply UInt8.toNat_inj.1; rw [UInt8.toNat_ofNat']; omega
        have e5 : UInt8.ofNat s = q := by apply UInt8.toNat_inj.1; rw [UInt8.toNat_ofNat']; omega
        refine ⟨?_, rfl, by omega, by omega⟩
        unfold cellB
        rw [e4, e5]
theorem readC_len {b : Bs} {d s : Int} (h : (readC b d s).2 = 0) : (readC b d s).1.length = 4 := by
  unfold readC at *
  split
  · rename_i h1; rw [if_pos h1] at h; simp at h
  · rename_i h1
    split
    · rename_i h2; rw [if_neg h1, if_pos h2] at h; simp at h
    · simp only [not_or, Decidable.not_not] at h1
      simp [h1.1]
theorem readC_bad {b : Bs} {d s : Int} (h : (readC b d s).2 ≠ 0) : (readC b d s).1 = [] := by
  unfold readC at *
  split
  · rfl
  · rename_i h1
    split
    · rfl
    · rename_i h2; rw [if_neg h1, if_neg h2] at h; simp at h
theorem cellB_inj {d s d' s' : Nat} {x y : Bs} (hd : d < 256) (hs : s < 256) (hd' : d' < 256) (hs' : s' < 256) (h : cellB d s x = cellB d' s' y) : d = d' ∧ s = s' ∧ x = y := by
  have h1 := sealB_inj h
  injection h1 with h2 h3
  injection h3 with h4 h5
  have e1 := congrArg UInt8.toNat h2
  have e2 := congrArg UInt8.toNat h4
  rw [UInt8.toNat_ofNat', UInt8.toNat_ofNat'] at e1 e2
  exact ⟨by omega, by omega, h5⟩
end Go.Proofs.Ytlbnkoahkfhimaa.M

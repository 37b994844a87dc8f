/- TopHole: plain laws: a deed that falls on the full array, and a disk that goes then. -/
import Derived.Test.YtdcmbdghnkgghaaDoorTopDisks
namespace Go.Proofs.YtdcmbdghnkgghaaDoor
set_option linter.unusedVariables false
open Go Go.RowKit M
theorem done_good {a : Arr} {Q : Nat → List Bs} (h : M.Good a Q) (hc : M.Calm a) {d : Deed} (hr : wrongI d = 0) : ∃ Q', M.Good (stepP a (stD d)).1 Q' ∧ M.Calm (stepP a (stD d)).1 := by
  obtain ⟨⟨n0, n1⟩, _⟩ := wrong_ok hr
  have hpl := good_plan h hr (hc _ (by omega))
  have e : (stepP a (stD d)).1 = putA a (planA a.disks d).1 := by
    show (doA a d).1 = _
    rw [doA_okA (by rw [hpl])]
    rfl
  rw [e, hpl]
  exact ⟨_, (good_do h hr).1, (good_do h hr).2 hc⟩
theorem doneTo_calm (ds : List Deed) (hall : ∀ d ∈ ds, wrongI d = 0) (k : Nat) : ∃ Q, M.Good (doneTo ds k) Q ∧ M.Calm (doneTo ds k) := by
  induction k with
  | zero => exact ⟨_, good_new.1, good_new.2⟩
  | succ k ih =>
    obtain ⟨Q, h, hc⟩ := ih
    by_cases hk : k < ds.length
    · rw [doneTo_next (List.getElem?_eq_getElem hk)]
      exact done_good h hc (hall _ (List.getElem_mem hk))
    · have : doneTo ds (k + 1) = doneTo ds k := by unfold doneTo; rw [List.take_of_length_le (by omega), List.take_of_length_le (by omega)]
      rw [this]; exact ⟨Q, h, hc⟩
theorem full_Q : ∃ Q, M.Good fullA Q ∧ M.Calm fullA ∧ blocksQ Q = wantF := by
  obtain ⟨Q, h, hc⟩ := doneTo_calm dsF (by decide) 9
  refine ⟨Q, h, hc, ?_⟩
  have hb := good_blocks h hc
  rw [bF] at hb
  exact (congrArg Prod.fst hb).symm
def stF (n : Int) (d : Deed) : Step := ⟨2, n, 0, d⟩
set_option maxRecDepth 100000 in
theorem hole_good {d : Deed} (hr : wrongI d = 0) (n : Int) : ∃ Q, M.Good (stepP fullA (stF n d)).1 Q ∧ worstA (stepP fullA (stF n d)).1.disks = 0 ∧ (stepP fullA (stF n d)).2 = 0 ∧ (blocksQ Q = wantF ∨ blocksQ Q = doD wantF d) := by
  obtain ⟨Q, h, hc, hb⟩ := full_Q
  obtain ⟨⟨n0, n1⟩, _⟩ := wrong_ok hr
  have hpl := good_plan h hr (hc _ (by omega))
  have hp0 : (planA fullA.disks d).2 = 0 := by rw [hpl]
  have hio := intOk_plan h.shape hp0
  have e1 : stepP fullA (stF n d) = (mountA (writeK cellsP fullA (planA fullA.disks d).1 n), 0) := by
    show (if (planA fullA.disks d).2 ≠ 0 then (fullA, (planA fullA.disks d).2) else (mountA (writeK cellsP fullA (planA fullA.disks d).1 n), 0)) = _
    rw [if_neg (by rw [hp0]; exact fun h => h rfl)]
  rw [e1]
  rcases mount_half (.inl rfl) h.shape h.none_ hio.2.1 hio.2.2.2 n with e | e
  · rw [show mountA (writeK cellsP fullA (planA fullA.disks d).1 n) = fullA from e]
    exact ⟨Q, h, f_worst, rfl, .inl hb⟩
  · rw [show mountA (writeK cellsP fullA (planA fullA.disks d).1 n) = putA fullA (planA fullA.disks d).1 from e, hpl]
    refine ⟨doQ Q d, (good_do h hr).1, ?_, rfl, .inr (by rw [doQ_blocks hr fun s hs => (h.has s hs).dlen, hb])⟩
    have hs : d.n.toNat / 3 < 3 := by omega
    have H := h.has _ hs
    obtain ⟨p1, p2, p3⟩ := plan_zero hr H.dlen H.blk
    obtain ⟨_, g2, g3⟩ := good_put h hs p1 p2 p3
    refine Nat.le_zero.1 (worst_le.2 fun t ht => ?_)
    by_cases hts : t = d.n.toNat / 3
    · subst hts
      rw [g2]
      exact Nat.le_refl _
    · rw [g3 t hts]
      exact worst_le.1 (Nat.le_of_eq f_worst) t ht
theorem hole_facts {d : Deed} (hr : wrongI d = 0) (n : Int) {g : Int} (hg : 0 ≤ g ∧ g < 4) : (stepP fullA (stF n d)).2 = 0 ∧ ∃ l, blocksA (goneA (stepP fullA (stF n d)).1 g).1.disks = (l, 0) ∧ (l = wantF ∨ l = doD wantF d) := by
  obtain ⟨Q, h, hw, he, hb⟩ := hole_good hr n
  obtain ⟨h2, hw2⟩ := one_gone h hw (gone_ok _ hg)
  exact ⟨he, _, good_blocks h2 (calm_iff.1 (by omega)), hb⟩
end Go.Proofs.YtdcmbdghnkgghaaDoor

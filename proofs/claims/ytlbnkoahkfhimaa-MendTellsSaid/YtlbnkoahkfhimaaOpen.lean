/- The arguments of a law, opened: a slice reads as a list. No program in sight. -/
import Derived.ProofKit
import Derived.OpenShut
import Derived.SizedLaws
import Derived.ChangeOld
import Derived.Deep.Slices
import Derived.Test.YtlbnkoahkfhimaaMem
namespace Go.Proofs.Ytlbnkoahkfhimaa.M
set_option linter.unusedVariables false
open Go Go.RowKit Go.ChangeShapes Go.WideShapes Go.Deep

section
variable {H : Type} {enc : TypeId × Value → H} {P : Program} {w : World} {base : Nat} {spare : Nat → Bool} {held : Bool}

theorem list_of_fn {α : Type} {n : Nat} {p : Nat → α → Prop} (h : ∀ i, i < n → ∃ x, p i x) : ∃ l : List α, l.length = n ∧ ∀ i x, l[i]? = some x → p i x := by
  induction n with
  | zero => exact ⟨[], rfl, fun i x hx => by simp at hx⟩
  | succ n ih =>
    obtain ⟨l, hl, hp⟩ := ih fun i hi => h i (by omega)
    obtain ⟨x, hx⟩ := h n (by omega)
    refine ⟨l ++ [x], by simp [hl], fun i y hy => ?_⟩
    by_cases hi : i < n
    · rw [List.getElem?_append_left (by omega)] at hy
      exact hp i y hy
    · have hi' : i = n := by
        have := (List.getElem?_eq_some_iff.1 hy).1
        simp at this
        omega
      subst hi'
      rw [List.getElem?_append_right (by omega)] at hy
      simp [hl] at hy
      subst hy
      exact hx

/-- How long the datum says that the slice is. -/
def DLen (d : DataW H) (n : Nat) : Prop := (d = .nil ∧ n = 0) ∨ ∃ elems sp, d = .slice elems sp ∧ elems.length = n

theorem open_RdL {α : Type} {R : Rel α} {t e : TypeId} (ht : P.underlying t = some (.slice e)) (hc : P.cellsOf e = 1)
    (hR : ∀ fuel v x, DataW.trod enc P w base spare held fuel e [v] = some x → ∃ y, R w (fun _ => True) v y)
    {fuel : Nat} {v : Value} {x : DataW H × List MemPlace} (h : DataW.trod enc P w base spare held fuel t [v] = some x) :
    ∃ ys, RdL R w (fun _ => True) v ys ∧ DLen x.1 ys.length := by
  rcases open_slice1 ht hc h with ⟨hcs, rfl⟩ | ⟨a, len, cap, m, n, V, D, Pl, hcs, _, hl, hm, hmm, rfl, hi⟩
  · obtain rfl : v = .slice none 0 0 := by simpa using hcs
    exact ⟨[], RdL.nil_ R w _ none 0 (by simp [maxLen]), .inl ⟨rfl, rfl⟩⟩
  · obtain rfl : v = .slice (some a) len cap := by simpa using hcs
    have hlm : len ≤ m := by rw [hmm]; split <;> omega
    obtain ⟨ys, hyl, hy⟩ := list_of_fn (n := len) (p := fun i y => R w (fun _ => True) (V i) y) fun i hi' => by
      obtain ⟨_, ht'⟩ := hi i (by omega)
      exact hR _ _ _ ht'
    refine ⟨ys, ⟨(List.range len).map V, ⟨some a, cap, by simp, by simpa using hl, hm, fun hn => ?_⟩, by simp [hyl], fun j u y hu hyj => ?_⟩, .inr ⟨_, _, rfl, by simp [hyl]⟩⟩
    · simp at hn
      obtain ⟨b, off, spot⟩ := a
      have hc0 := (hi 0 (by omega)).1
      have hspot : spot = none := by simpa [Addr.add] using World.cell?_spot hc0
      subst hspot
      refine ⟨b, off, rfl, trivial, fun j u hu => ?_⟩
      have hj : j < len := by have := (List.getElem?_eq_some_iff.1 hu).1; simpa using this
      have hcj := (hi j (by omega)).1
      have hadd : (⟨b, off, none⟩ : Addr).add j = ⟨b, off + j, none⟩ := by unfold Addr.add; split <;> simp_all
      rw [hadd] at hcj
      simp [hj] at hu
      subst hu
      exact hcj
    · have hj : j < len := by have := (List.getElem?_eq_some_iff.1 hu).1; simpa using this
      simp [hj] at hu
      subst hu
      exact hy j y hyj
theorem open_R8 {e : TypeId} (he : P.underlying e = some (.int .u8)) {fuel : Nat} {v : Value} {x : DataW H × List MemPlace} (h : DataW.trod enc P w base spare held fuel e [v] = some x) : ∃ c, R8 w (fun _ => True) v c := by
  obtain ⟨n, hv, _, hw⟩ := DataW.trod_int he h
  obtain rfl : v = .int .u8 n := by simpa using hv
  have hb := bounds_u8 hw
  refine ⟨UInt8.ofNat n.toNat, ?_⟩
  unfold R8 B8
  rw [UInt8.toNat_ofNat']
  congr 1
  omega
theorem open_RI {e : TypeId} (he : P.underlying e = some (.int .i64)) {fuel : Nat} {v : Value} {x : DataW H × List MemPlace} (h : DataW.trod enc P w base spare held fuel e [v] = some x) : ∃ c, RI w (fun _ => True) v c := by
  obtain ⟨n, hv, _, _⟩ := DataW.trod_int he h
  exact ⟨n, by simpa [RI] using hv⟩
theorem open_B {t e : TypeId} (ht : P.underlying t = some (.slice e)) (he : P.underlying e = some (.int .u8)) (hc : P.cellsOf e = 1) {fuel : Nat} {v : Value} {x : DataW H × List MemPlace} (h : DataW.trod enc P w base spare held fuel t [v] = some x) :
    ∃ b : Bs, RdB w (fun _ => True) v b ∧ DLen x.1 b.length := open_RdL ht hc (fun _ _ _ h => open_R8 he h) h
theorem open_BB {t t' e : TypeId} (ht : P.underlying t = some (.slice t')) (hc' : P.cellsOf t' = 1) (ht' : P.underlying t' = some (.slice e)) (he : P.underlying e = some (.int .u8)) (hc : P.cellsOf e = 1) {fuel : Nat} {v : Value} {x : DataW H × List MemPlace} (h : DataW.trod enc P w base spare held fuel t [v] = some x) :
    ∃ b : List Bs, RdBB w (fun _ => True) v b ∧ DLen x.1 b.length := open_RdL ht hc' (fun _ _ _ h => let ⟨b, hb, _⟩ := open_B ht' he hc h; ⟨b, hb⟩) h
end
end Go.Proofs.Ytlbnkoahkfhimaa.M

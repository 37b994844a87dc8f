/- slices.ContainsFunc of lists of lists of bytes, at may.Walk's test. -/
import Derived.Test.YtoendmbgfbhidaaC23
import Derived.Test.YtoendmbgfbhidaaZc
namespace Go.Proofs.Ytoendmbgfbhidaa
set_option linter.unusedVariables false
open Go Go.RowKit M
theorem walk_f (l b : List Bs) (v vb : Value) (p : Nat) {T : TypeId} {F F2 : Fp} (w : World) (h : RdBB w F v l) (hp : BoxAt w p T [vb]) (hb : RdBB w F2 vb b) :
    Calls Try.prog 80 #[v, .pointer (some ⟨p, 0, none⟩)] w fun e w' => e = .returned (.bool (l == b)) ∧ Below w.heap.size w w' := by
  have H := Lib.hid (model_Same l b v vb (fun _ => True) w (okBB.mono h fun _ _ => trivial) (okBB.mono hb fun _ _ => trivial))
  have h0 : w.cell? ⟨p, 0, none⟩ = some vb := hp.cell 0
  obtain ⟨A, ca, rfl, _, _⟩ := h.shape
  obtain ⟨B, cb, rfl, _, _⟩ := hb.shape
  clear h hp hb
  go_enter Try.func80, Try.ntmps80
  go_wp2_with fail
  refine H.out.mono ?_
  rintro e w' ⟨rfl, hb'⟩
  go_wp2
  go_ret
  exact ⟨rfl, hb'⟩
set_option maxRecDepth 100000 in
set_option maxHeartbeats 800000 in
theorem indexFunc_in (L : List (List Bs)) (b : List Bs) (v vb : Value) (p : Nat) {T : TypeId} {F F2 : Fp} (w : World) (h : RdBBB w F v L) (hp : BoxAt w p T [vb]) (hb : RdBB w F2 vb b) (hin : b ∈ L) :
    Calls Try.prog 92 #[v, .func (.func 80) #[] #[.pointer (some ⟨p, 0, none⟩)]] w fun e w' => ∃ k : Nat, e = .returned (.int .i64 k) ∧ Below w.heap.size w w' := by
  have H := Lib.hid (okBBB.lt h)
  have HP := Lib.hid hp
  have HB := Lib.hid hb
  have HIn := Lib.hid hin
  obtain ⟨A, c, rfl, hlc, hm⟩ := h.shape
  unfold maxLen at hm
  clear h hp hb hin
  go_enter Try.func92, Try.ntmps92
  go_wp2
  go_loopw [8] (fun i wr => ∃ k : Nat, k ≤ L.length ∧ i = .int .i64 k ∧ (∀ j, j < k → L[j]? ≠ some b) ∧ Below w.heap.size w wr) (fun i _ => L.length - (intOf i).toNat)
  case atStart => exact ⟨0, Nat.zero_le _, rfl, fun j hj => by omega, Below.refl _ _⟩
  case round =>
    obtain ⟨k, hk, rfl, hpre, hlw⟩ := hrel
    have HPre := Lib.hid hpre
    have HLW := Lib.hid hlw
    by_cases hlt : k < L.length
    rotate_left
    · exfalso
      obtain ⟨j, hj, hjb⟩ := List.getElem_of_mem HIn.out
      exact hpre j (by omega) (by rw [List.getElem?_eq_getElem hj, hjb])
    obtain ⟨ba, oa, u, rfl, _, hu, hR⟩ := (okBBB.grow H.out hlw).at_ (k := k) hlt
    obtain ⟨Au, cu, rfl, _, _⟩ := hR.shape
    have hcall := Lib.hid (walk_f L[k] b _ vb p (F := fun _ => True) wr (okBB.mono hR fun _ _ => trivial) (HP.out.grow hlw) (okBB.grow HB.out hlw))
    clear hpre hlw hR
    cases hq : (L[k] == b)
    · have hne : L[k] ≠ b := fun e => by rw [e, beq_self_eq_true] at hq; cases hq
      rw [hq] at hcall
      have HNE := Lib.hid hne
      clear hq hne
      go_wp2_with (go_at_call 80; refine hcall.out.mono ?_; rintro e w' ⟨rfl, hb'⟩)
      have hl2 := HLW.out.trans (hb'.mono HLW.out.size)
      go_roundw
      case rel => exact ⟨k + 1, by omega, by go_num, fun j hj => by rcases Nat.lt_succ_iff_lt_or_eq.1 hj with h | rfl; exact HPre.out j h; rw [List.getElem?_eq_getElem hlt]; exact fun e => HNE.out (Option.some.inj e), hl2⟩
      case measure => simp [intOf]; omega
    · rw [hq] at hcall
      clear hq
      go_wp2_with (go_at_call 80; refine hcall.out.mono ?_; rintro e w' ⟨rfl, hb'⟩)
      have hl2 := HLW.out.trans (hb'.mono HLW.out.size)
      go_ret
      exact ⟨k, rfl, hl2⟩
theorem contains_in (L : List (List Bs)) (b : List Bs) (v vb : Value) (p : Nat) {T : TypeId} {F F2 : Fp} (w : World) (h : RdBBB w F v L) (hp : BoxAt w p T [vb]) (hb : RdBB w F2 vb b) (hin : b ∈ L) :
    Calls Try.prog 79 #[v, .func (.func 80) #[] #[.pointer (some ⟨p, 0, none⟩)]] w fun e w' => e = .returned (.bool true) ∧ Below w.heap.size w w' := by
  have H := Lib.hid (indexFunc_in L b v vb p w h hp hb hin)
  obtain ⟨A, c, rfl, hlc, hm⟩ := h.shape
  clear h hp hb hin
  go_enter Try.func79, Try.ntmps79
  go_wp2_with fail
  refine H.out.mono ?_
  rintro e w' ⟨k, rfl, hb'⟩
  have hd : decide ((0 : Int) ≤ (k : Int)) = true := by simp
  go_wp2
  go_ret
  exact ⟨rfl, hb'⟩
end Go.Proofs.Ytoendmbgfbhidaa

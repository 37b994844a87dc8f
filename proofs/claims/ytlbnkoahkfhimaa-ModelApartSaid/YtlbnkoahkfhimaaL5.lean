/- Chapter 5: the closed fact of its statements. -/
import Derived.Test.YtlbnkoahkfhimaaC5e
namespace Go.Proofs.Ytlbnkoahkfhimaa
set_option linter.unusedVariables false
open Go Go.RowKit M
def abcd : Bs := [97, 98, 99, 100]
def l5a : List Bs := doD newB ⟨1, 4, 0, abcd⟩
def l5b : List Bs := doD l5a ⟨2, 4, 5, []⟩
set_option maxRecDepth 100000 in
set_option maxHeartbeats 1600000 in
theorem law5_alive (w : World) : Calls Try.prog 24 #[] w fun e w' => e = .returned (.bool true) ∧ Below w.heap.size w w' := by
  have kc := fun (w : World) (C : Array Value) (n c : Nat) => Lib.run_convert_bytes_const (P := Try.prog) w 23 5 C n c Try.underlying23 Try.underlying5
  go_enter Try.func24, Try.ntmps24
  go_wp2_with fail
  refine (model_New _).mono ?_
  rintro e w1 ⟨v1, rfl, hv1, hl1⟩
  have hr1 := hv1.toRd_ okB
  go_wp2_with fail
  have hd0 : RdB (w1.alloc (.cells #[.int .u8 97, .int .u8 98, .int .u8 99, .int .u8 100] 5 (4, 5))) (fun _ => True) (.slice (some ⟨w1.heap.size, 0, none⟩) 4 4) abcd := rd_const w1 abcd _ _ (by decide)
  have hl0 := below_alloc w1 (.cells #[.int .u8 97, .int .u8 98, .int .u8 99, .int .u8 100] 5 (4, 5))
  refine (model_Do newB ⟨1, 4, 0, abcd⟩ _ _ (fun _ => True) _ (okBB.mono (okBB.grow hr1 hl0) fun _ _ => trivial) ⟨_, rfl, hd0⟩ rfl rfl).mono ?_
  rintro e w2 ⟨v2, rfl, hv2, hl2⟩
  have hr2 : RdBB w2 (fun k => k < w2.heap.size) v2 l5a := hv2.toRd_ okB
  replace hl2 := hl1.trans ((hl0.trans (hl2.mono hl0.size)).mono hl1.size)
  clear hv1 hl1 hr1 hd0 hl0 hv2
  go_wp2_with fail
  refine (model_Do l5a ⟨2, 4, 5, []⟩ _ _ (fun _ => True) _ (okBB.mono hr2 fun _ _ => trivial) ⟨_, rfl, RdL.nil_ _ _ _ _ _ (by decide)⟩ rfl rfl).mono ?_
  rintro e w3 ⟨v3, rfl, hv3, hl3⟩
  have hr3 : RdBB w3 (fun k => k < w3.heap.size) v3 l5b := hv3.toRd_ okB
  replace hr2 := okBB.grow hr2 hl3
  replace hl3 := hl2.trans (hl3.mono hl2.size)
  obtain ⟨b2, o2, c2, rfl, _, _, _, _⟩ := hr2.form (by decide)
  obtain ⟨b3, o3, c3, rfl, _, _, _, _⟩ := hr3.form (by decide)
  have e9 : l5a.length = 9 := rfl
  have e9' : l5b.length = 9 := rfl
  rw [e9] at hr2 ⊢
  rw [e9'] at hr3 ⊢
  clear hv3 hl2 e9 e9'
  obtain ⟨u2, hu2, hx2⟩ := RdL_q hr2 (k := 4) (x := abcd) rfl
  obtain ⟨u3, hu3, hx3⟩ := RdL_q hr3 (k := 5) (x := abcd) rfl
  have hc2 := run_conv hx2 Try.underlying23 Try.underlying5 Try.underlying9
  have hc3 := run_conv hx3 Try.underlying23 Try.underlying5 Try.underlying9
  have hst : (strB abcd).toList = [97, 98, 99, 100] := strB_toList abcd
  clear hx2 hx3
  go_wp2_with fail
  refine (model_Same l5a l5a _ _ _ _ hr2 hr2).mono ?_
  rintro e w4 ⟨rfl, hl4⟩
  rw [show (l5a == l5a) = true from by decide +kernel]
  replace hr2 := okBB.grow hr2 hl4
  replace hr3 := okBB.grow hr3 hl4
  replace hl4 := hl3.trans (hl4.mono hl3.size)
  clear hu2 hu3 hc2 hc3 hst
  go_wp2_with fail
  refine (model_Same l5a l5b _ _ (fun _ => True) _ (okBB.mono hr2 fun _ _ => trivial) (okBB.mono hr3 fun _ _ => trivial)).mono ?_
  rintro e w5 ⟨rfl, hl5⟩
  rw [show (l5a == l5b) = false from by decide +kernel]
  replace hl5 := hl4.trans (hl5.mono hl4.size)
  clear hr2 hr3 hl4 hl3
  go_wp2_with fail
  refine (model_Wrong ⟨2, 2, 3, []⟩ _ (fun _ => True) _ ⟨_, rfl, RdL.nil_ _ _ _ _ _ (by decide)⟩).mono ?_
  rintro e w6 ⟨rfl, hl6⟩
  rw [show wrongI ⟨2, 2, 3, []⟩ = 3 from by decide]
  go_wp2
  go_ret
  exact ⟨rfl, hl5.trans (hl6.mono hl5.size)⟩
end Go.Proofs.Ytlbnkoahkfhimaa

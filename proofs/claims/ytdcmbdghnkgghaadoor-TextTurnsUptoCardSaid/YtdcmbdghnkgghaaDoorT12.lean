/- Chapter 6: the closed fact of its statements: the walk. -/
import Derived.Test.YtdcmbdghnkgghaaDoorT10
import Derived.Test.YtdcmbdghnkgghaaDoorT6
namespace Go.Proofs.YtdcmbdghnkgghaaDoor
set_option linter.unusedVariables false
open Go Go.RowKit M
def dW : Deed := ⟨1, 4, 0, [97, 98, 99, 100]⟩
def dS : Deed := ⟨2, 1, 2, []⟩
theorem pS1 : parseP [115, 119, 97, 112, 32, 49, 32, 50] = (dS, 0) := by kernel_rfl
theorem prW : strB (printP dW) = ⟨#[119, 114, 105, 116, 101, 32, 52, 32, 54, 49, 54, 50, 54, 51, 54, 52]⟩ := by kernel_rfl
theorem prS : strB (printP dS) = ⟨#[115, 119, 97, 112, 32, 49, 32, 50]⟩ := by kernel_rfl
theorem abcd : strB [97, 98, 99, 100] = ⟨#[97, 98, 99, 100]⟩ := rfl
set_option maxRecDepth 100000 in
set_option maxHeartbeats 3200000 in
theorem law6_alive (w : World) (hv : Vars w) :
    Calls Tryd.prog 15 #[] w fun e w' => e = .returned (.bool true) ∧ Below w.heap.size w w' := by
  have HV := Lib.hid hv
  clear hv
  go_enter Tryd.func15, Tryd.ntmps15
  go_wp2_with fail
  refine (text_Parse _ (by decide) w HV.out).mono ?_
  rintro e w1 ⟨v1, rfl, hr1, hb1⟩
  have ep : parseP (⟨#[119, 114, 105, 116, 101, 32, 52, 32, 54, 49, 54, 50, 54, 51, 54, 52]⟩ : ByteArray).data.toList = (dW, 0) := pA0
  rw [ep] at hr1 ⊢
  obtain ⟨u1, rfl, hu1⟩ := hr1
  replace hu1 : RdB w1 (fun k => w.heap.size ≤ k ∧ k < w1.heap.size) u1 [97, 98, 99, 100] := okB.lt hu1
  obtain ⟨A1, c1, rfl, _, _⟩ := hu1.shape
  have hX := boxAt_new w1 24 [.int .i64 1, .int .i64 4, .int .i64 0, .slice A1 4 c1]
  have hal := below_alloc w1 (.cells #[.int .i64 1, .int .i64 4, .int .i64 0, .slice A1 4 c1] 24)
  have hu2 := okB.grow hu1 hal
  have hv2 := (HV.out.grow hb1).grow hal
  have hb2 := hb1.trans (hal.mono hb1.size)
  have hs1 := hb1.size
  obtain ⟨wX, hwX⟩ : ∃ x, w1.alloc (.cells #[.int .i64 1, .int .i64 4, .int .i64 0, .slice A1 4 c1] 24) = x := ⟨_, rfl⟩
  change BoxAt (w1.alloc (.cells #[.int .i64 1, .int .i64 4, .int .i64 0, .slice A1 4 c1] 24)) _ _ _ at hX
  rw [hwX] at hX hu2 hv2 hb2
  obtain ⟨B1, hB1⟩ : ∃ b, w1.heap.size = b := ⟨_, rfl⟩
  rw [hB1] at hX hs1
  have HX := Lib.hid hX
  have HU := Lib.hid hu2
  have HV2 := Lib.hid hv2
  have HB2 := Lib.hid hb2
  clear hX hal hu2 hv2 hb2 hb1 hu1 ep HV
  simp only [dW, List.length_cons, List.length_nil, Nat.zero_add, Nat.reduceAdd]
  go_wp2_with fail
  try rw [hwX]
  refine (text_Parse _ (by decide) wX HV2.out).mono ?_
  rintro e w3 ⟨v3, rfl, hr3, hb3⟩
  have ep : parseP (⟨#[115, 119, 97, 112, 32, 49, 32, 50]⟩ : ByteArray).data.toList = (dS, 0) := pS1
  rw [ep] at hr3 ⊢
  clear ep hwX
  obtain ⟨u3, rfl, hu3⟩ := hr3
  replace hu3 : RdB w3 (fun k => wX.heap.size ≤ k) u3 [] := hu3
  obtain ⟨A3, c3, rfl, _, _⟩ := hu3.shape
  have hY := boxAt_new w3 24 [.int .i64 2, .int .i64 1, .int .i64 2, .slice A3 0 c3]
  have hal := below_alloc w3 (.cells #[.int .i64 2, .int .i64 1, .int .i64 2, .slice A3 0 c3] 24)
  have hb34 := hb3.trans (hal.mono hb3.size)
  have hx4 := HX.out.grow hb34
  have hu4 := okB.grow HU.out hb34
  have hv4 := HV2.out.grow hb34
  have hb4 := HB2.out.trans (hb34.mono HB2.out.size)
  obtain ⟨wY, hwY⟩ : ∃ x, w3.alloc (.cells #[.int .i64 2, .int .i64 1, .int .i64 2, .slice A3 0 c3] 24) = x := ⟨_, rfl⟩
  change BoxAt (w3.alloc (.cells #[.int .i64 2, .int .i64 1, .int .i64 2, .slice A3 0 c3] 24)) _ _ _ at hY
  rw [hwY] at hY hx4 hu4 hv4 hb4
  obtain ⟨B3, hB3⟩ : ∃ b, w3.heap.size = b := ⟨_, rfl⟩
  rw [hB3] at hY
  have HY := Lib.hid hY
  have HX4 := Lib.hid hx4
  have HU4 := Lib.hid hu4
  have HV4 := Lib.hid hv4
  have HB4 := Lib.hid hb4
  obtain ⟨x0, x1, x2, x3⟩ := hx4.four
  obtain ⟨y0, y1, y2, y3⟩ := hY.four
  have hcv := run_conv hu4 Tryd.underlying22 Tryd.underlying5 Tryd.underlying9
  rw [abcd] at hcv
  change (convert 22 9 (.slice A1 4 c1)).run _ _ = _ at hcv
  clear hY hal hb34 hx4 hu4 hv4 hb4 hu3 hb3 HX HU HV2 HB2
  simp only [dS, List.length_nil]
  go_wp2_with fail
  refine (text_Print dW _ _ wY ⟨_, rfl, HU4.out⟩ (by decide) HV4.out).mono ?_
  rintro e w5 ⟨rfl, hb5⟩
  rw [prW]
  have HY5 := Lib.hid (HY.out.grow hb5)
  have HV5 := Lib.hid (HV4.out.grow hb5)
  have HB5 := Lib.hid (HB4.out.trans (hb5.mono HB4.out.size))
  obtain ⟨z0, z1, z2, z3⟩ := HY5.out.four
  clear hb5 HX4 HU4 HV4 HB4 HY x0 x1 x2 x3 y0 y1 y2 y3 hcv
  go_wp2_with fail
  clear z0 z1 z2 z3
  refine (text_Print dS _ (fun _ => True) w5 ⟨_, rfl, RdL.nil_ _ _ _ _ _ (by omega)⟩ (by decide) HV5.out).mono ?_
  rintro e w6 ⟨rfl, hb6⟩
  rw [prS]
  have HB6 := Lib.hid (HB5.out.trans (hb6.mono HB5.out.size))
  clear hb6 HY5 HV5 HB5
  go_wp2_with fail
  go_ret
  exact ⟨rfl, HB6.out⟩
end Go.Proofs.YtdcmbdghnkgghaaDoor

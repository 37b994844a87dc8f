/- Chapter 2: what the laws' own helper answers. -/
import Derived.Test.YtobhkdobocjoeaaC2
namespace Go.Proofs.Ytobhkdobocjoeaa
open Go Go.RowKit M

def abcd : Bs := [97, 98, 99, 100]
set_option maxHeartbeats 800000 in
theorem law2_alive (w : World) : Calls Try.prog 40 #[] w fun e w' => e = .returned (.bool true) ∧ Below w.heap.size w w' := by
  have kc := fun (w : World) (C : Array Value) (n c : Nat) => Lib.run_convert_bytes_const (P := Try.prog) w 22 5 C n c Try.underlying22 Try.underlying5
  go_enter Try.func40, Try.ntmps40
  go_wp2_with fail
  clear kc
  have h0 : RdB (w.alloc (.cells #[.int .u8 97, .int .u8 98, .int .u8 99, .int .u8 100] 5 (4, 5))) (fun _ => True) (.slice (some ⟨w.heap.size, 0, none⟩) 4 4) abcd := rd_const w abcd _ _ (by decide)
  have hw0 := below_alloc w (.cells #[.int .u8 97, .int .u8 98, .int .u8 99, .int .u8 100] 5 (4, 5))
  refine (cell_Bytes 2 1 _ _ _ _ h0 (by decide) (by decide) (by decide)).mono ?_
  rintro e w1 ⟨v1, rfl, hv1, hb1⟩
  replace hw0 := hw0.trans (hb1.mono hw0.size)
  have hr := hv1.toRd_ ok8
  obtain ⟨A, c, rfl, _, _⟩ := hr.shape
  have hl : (cellB 2 1 abcd).length = 8 := rfl
  rw [hl] at hr ⊢
  clear h0 hb1 hv1 hl
  go_wp2_with fail
  refine (cell_Read _ _ _ _ _ _ hr).mono ?_
  rintro e w2 ⟨v2, rfl, hv2, hb2⟩
  rw [show (readC (cellB 2 1 abcd) 2 1) = (abcd, 0) from readC_cellB 2 1 rfl (by decide) (by decide)] at hv2 ⊢
  replace hw0 := hw0.trans (hb2.mono hw0.size)
  replace hr := okB.grow hr hb2
  have hr2 := hv2.toRd_ ok8
  clear hv2 hb2
  go_wp2_with fail
  refine (cell_Read _ _ _ _ _ _ hr).mono ?_
  rintro e w3 ⟨v3, rfl, _, hb3⟩
  rw [show (readC (cellB 2 1 abcd) 1 2).2 = 8 from congrArg (·.2) (show readC (cellB 2 1 abcd) 1 2 = ([], 8) from by decide +kernel)]
  replace hw0 := hw0.trans (hb3.mono hw0.size)
  replace hr2 := okB.grow hr2 hb3
  have hc := run_conv hr2 Try.underlying22 Try.underlying5 Try.underlying9
  have hab : strB abcd = ⟨#[97, 98, 99, 100]⟩ := rfl
  rw [hab] at hc
  clear hr hr2 hb3
  go_wp2_with fail
  refine (cell_There _ _ _).mono ?_
  rintro e w4 ⟨rfl, rfl⟩
  rw [show thereB 3 2 = true from rfl]
  go_wp2_with fail
  refine (cell_There _ _ _).mono ?_
  rintro e w4 ⟨rfl, rfl⟩
  rw [show thereB 3 3 = false from rfl]
  go_wp2
  go_ret
  exact ⟨rfl, hw0⟩
end Go.Proofs.Ytobhkdobocjoeaa

/- The two arrays that chapter-free statements start with: facts. -/
import Derived.Test.YtdcmbdghnkgghaaDoorT4
import Derived.Test.YtdcmbdghnkgghaaDoorC15
namespace Go.Proofs.YtdcmbdghnkgghaaDoor
set_option linter.unusedVariables false
open Go Go.RowKit M
def tsA : List ByteArray := [(⟨#[119, 114, 105, 116, 101, 32, 52, 32, 54, 49, 54, 50, 54, 51, 54, 52]⟩ : ByteArray), (⟨#[115, 119, 97, 112, 32, 52, 32, 51]⟩ : ByteArray)]
def tsF : List ByteArray := [(⟨#[119, 114, 105, 116, 101, 32, 48, 32, 48, 48, 48, 49, 48, 50, 48, 51]⟩ : ByteArray), (⟨#[119, 114, 105, 116, 101, 32, 49, 32, 49, 48, 49, 49, 49, 50, 49, 51]⟩ : ByteArray), (⟨#[119, 114, 105, 116, 101, 32, 50, 32, 50, 48, 50, 49, 50, 50, 50, 51]⟩ : ByteArray), (⟨#[119, 114, 105, 116, 101, 32, 51, 32, 51, 48, 51, 49, 51, 50, 51, 51]⟩ : ByteArray), (⟨#[119, 114, 105, 116, 101, 32, 52, 32, 52, 48, 52, 49, 52, 50, 52, 51]⟩ : ByteArray), (⟨#[119, 114, 105, 116, 101, 32, 53, 32, 53, 48, 53, 49, 53, 50, 53, 51]⟩ : ByteArray), (⟨#[119, 114, 105, 116, 101, 32, 54, 32, 54, 48, 54, 49, 54, 50, 54, 51]⟩ : ByteArray), (⟨#[119, 114, 105, 116, 101, 32, 55, 32, 55, 48, 55, 49, 55, 50, 55, 51]⟩ : ByteArray), (⟨#[119, 114, 105, 116, 101, 32, 56, 32, 56, 48, 56, 49, 56, 50, 56, 51]⟩ : ByteArray)]
def dsA : List Deed := [⟨1, 4, 0, [97, 98, 99, 100]⟩, ⟨2, 4, 3, []⟩]
def dsF : List Deed := [⟨1, 0, 0, [0, 1, 2, 3]⟩, ⟨1, 1, 0, [16, 17, 18, 19]⟩, ⟨1, 2, 0, [32, 33, 34, 35]⟩, ⟨1, 3, 0, [48, 49, 50, 51]⟩, ⟨1, 4, 0, [64, 65, 66, 67]⟩, ⟨1, 5, 0, [80, 81, 82, 83]⟩, ⟨1, 6, 0, [96, 97, 98, 99]⟩, ⟨1, 7, 0, [112, 113, 114, 115]⟩, ⟨1, 8, 0, [128, 129, 130, 131]⟩]
def wantF : List (List UInt8) := [[0, 1, 2, 3], [16, 17, 18, 19], [32, 33, 34, 35], [48, 49, 50, 51], [64, 65, 66, 67], [80, 81, 82, 83], [96, 97, 98, 99], [112, 113, 114, 115], [128, 129, 130, 131]]
theorem pA0 : parseP [119, 114, 105, 116, 101, 32, 52, 32, 54, 49, 54, 50, 54, 51, 54, 52] = (⟨1, 4, 0, [97, 98, 99, 100]⟩, 0) := by kernel_rfl
theorem pA1 : parseP [115, 119, 97, 112, 32, 52, 32, 51] = (⟨2, 4, 3, []⟩, 0) := by kernel_rfl
theorem pF0 : parseP [119, 114, 105, 116, 101, 32, 48, 32, 48, 48, 48, 49, 48, 50, 48, 51] = (⟨1, 0, 0, [0, 1, 2, 3]⟩, 0) := by kernel_rfl
theorem pF1 : parseP [119, 114, 105, 116, 101, 32, 49, 32, 49, 48, 49, 49, 49, 50, 49, 51] = (⟨1, 1, 0, [16, 17, 18, 19]⟩, 0) := by kernel_rfl
theorem pF2 : parseP [119, 114, 105, 116, 101, 32, 50, 32, 50, 48, 50, 49, 50, 50, 50, 51] = (⟨1, 2, 0, [32, 33, 34, 35]⟩, 0) := by kernel_rfl
theorem pF3 : parseP [119, 114, 105, 116, 101, 32, 51, 32, 51, 48, 51, 49, 51, 50, 51, 51] = (⟨1, 3, 0, [48, 49, 50, 51]⟩, 0) := by kernel_rfl
theorem pF4 : parseP [119, 114, 105, 116, 101, 32, 52, 32, 52, 48, 52, 49, 52, 50, 52, 51] = (⟨1, 4, 0, [64, 65, 66, 67]⟩, 0) := by kernel_rfl
theorem pF5 : parseP [119, 114, 105, 116, 101, 32, 53, 32, 53, 48, 53, 49, 53, 50, 53, 51] = (⟨1, 5, 0, [80, 81, 82, 83]⟩, 0) := by kernel_rfl
theorem pF6 : parseP [119, 114, 105, 116, 101, 32, 54, 32, 54, 48, 54, 49, 54, 50, 54, 51] = (⟨1, 6, 0, [96, 97, 98, 99]⟩, 0) := by kernel_rfl
theorem pF7 : parseP [119, 114, 105, 116, 101, 32, 55, 32, 55, 48, 55, 49, 55, 50, 55, 51] = (⟨1, 7, 0, [112, 113, 114, 115]⟩, 0) := by kernel_rfl
theorem pF8 : parseP [119, 114, 105, 116, 101, 32, 56, 32, 56, 48, 56, 49, 56, 50, 56, 51] = (⟨1, 8, 0, [128, 129, 130, 131]⟩, 0) := by kernel_rfl
theorem sA0 : (stepP (doneTo dsA 0) (stD ⟨1, 4, 0, [97, 98, 99, 100]⟩)).2 = 0 := by decide +kernel
theorem sA1 : (stepP (doneTo dsA 1) (stD ⟨2, 4, 3, []⟩)).2 = 0 := by decide +kernel
theorem rA : readA (doneTo dsA 2).disks 3 = ([97, 98, 99, 100], 0) := by decide +kernel
theorem sF0 : (stepP (doneTo dsF 0) (stD ⟨1, 0, 0, [0, 1, 2, 3]⟩)).2 = 0 := by decide +kernel
theorem sF1 : (stepP (doneTo dsF 1) (stD ⟨1, 1, 0, [16, 17, 18, 19]⟩)).2 = 0 := by decide +kernel
theorem sF2 : (stepP (doneTo dsF 2) (stD ⟨1, 2, 0, [32, 33, 34, 35]⟩)).2 = 0 := by decide +kernel
theorem sF3 : (stepP (doneTo dsF 3) (stD ⟨1, 3, 0, [48, 49, 50, 51]⟩)).2 = 0 := by decide +kernel
theorem sF4 : (stepP (doneTo dsF 4) (stD ⟨1, 4, 0, [64, 65, 66, 67]⟩)).2 = 0 := by decide +kernel
theorem sF5 : (stepP (doneTo dsF 5) (stD ⟨1, 5, 0, [80, 81, 82, 83]⟩)).2 = 0 := by decide +kernel
theorem sF6 : (stepP (doneTo dsF 6) (stD ⟨1, 6, 0, [96, 97, 98, 99]⟩)).2 = 0 := by decide +kernel
theorem sF7 : (stepP (doneTo dsF 7) (stD ⟨1, 7, 0, [112, 113, 114, 115]⟩)).2 = 0 := by decide +kernel
theorem sF8 : (stepP (doneTo dsF 8) (stD ⟨1, 8, 0, [128, 129, 130, 131]⟩)).2 = 0 := by decide +kernel
theorem bF : blocksA (doneTo dsF 9).disks = (wantF, 0) := by decide +kernel
theorem okA : AllOk tsA dsA := by
  intro k t h
  match k, h with
  | 0, h => injection h with h; subst h; exact ⟨_, rfl, by decide, pA0, sA0⟩
  | 1, h => injection h with h; subst h; exact ⟨_, rfl, by decide, pA1, sA1⟩
  | k + 2, h => simp [tsA] at h
theorem okF : AllOk tsF dsF := by
  intro k t h
  match k, h with
  | 0, h => injection h with h; subst h; exact ⟨_, rfl, by decide, pF0, sF0⟩
  | 1, h => injection h with h; subst h; exact ⟨_, rfl, by decide, pF1, sF1⟩
  | 2, h => injection h with h; subst h; exact ⟨_, rfl, by decide, pF2, sF2⟩
  | 3, h => injection h with h; subst h; exact ⟨_, rfl, by decide, pF3, sF3⟩
  | 4, h => injection h with h; subst h; exact ⟨_, rfl, by decide, pF4, sF4⟩
  | 5, h => injection h with h; subst h; exact ⟨_, rfl, by decide, pF5, sF5⟩
  | 6, h => injection h with h; subst h; exact ⟨_, rfl, by decide, pF6, sF6⟩
  | 7, h => injection h with h; subst h; exact ⟨_, rfl, by decide, pF7, sF7⟩
  | 8, h => injection h with h; subst h; exact ⟨_, rfl, by decide, pF8, sF8⟩
  | k + 9, h => simp [tsF] at h
def fullA : Arr := doneTo dsF 9
theorem full_good : Shape fullA.disks ∧ fullA.ints = [] := doneTo_good dsF 9
set_option maxRecDepth 100000 in
set_option maxHeartbeats 1600000 in
theorem top_alive (w : World) (hv : Vars w) :
    Calls Tryd.prog 16 #[] w fun e w' => e = .returned (.bool true) ∧ Below w.heap.size w w' := by
  have hrow : RdL RV (w.alloc (.cells (tsA.map Value.string).toArray 9)) (fun _ => True) (.slice (some ⟨w.heap.size, 0, none⟩) 2 2) (tsA.map Value.string) := pieces_rd w tsA (by decide)
  have hb0 := below_alloc w (.cells (tsA.map Value.string).toArray 9)
  obtain ⟨w1, hw1⟩ : ∃ x, w.alloc (.cells (tsA.map Value.string).toArray 9) = x := ⟨_, rfl⟩
  rw [hw1] at hrow hb0
  have HBel := Lib.hid hb0
  have HV := Lib.hid (hv.grow hb0)
  have HRow := Lib.hid hrow
  clear hv hrow hb0
  go_enter Tryd.func16, Tryd.ntmps16
  go_wp2_with fail
  rw [show w.alloc (.cells #[.string ⟨#[119, 114, 105, 116, 101, 32, 52, 32, 54, 49, 54, 50, 54, 51, 54, 52]⟩, .string ⟨#[115, 119, 97, 112, 32, 52, 32, 51]⟩] 9) = w1 from hw1]
  refine (top_done tsA dsA _ _ _ HRow.out okA HV.out).mono ?_
  rintro e waA ⟨vA, rfl, hr, hb⟩
  obtain ⟨bA, oA, cA, AA, dA, rfl, _, _, hcA, hmA⟩ := RdA_open hr (doneTo_good dsA _).1
  rw [show (doneTo dsA tsA.length).ints.length = 0 by rw [(doneTo_good dsA _).2]; rfl] at hr ⊢
  have ord0A : w.heap.size ≤ waA.heap.size := Nat.le_trans HBel.out.size hb.size
  have hal := below_alloc waA (.cells #[.slice (some ⟨bA, oA, none⟩) 4 cA, .slice AA 0 dA] 37)
  have hX := boxAt_new waA 37 [.slice (some ⟨bA, oA, none⟩) 4 cA, .slice AA 0 dA]
  have hbb := hb.trans (hal.mono hb.size)
  have hrl := hr.lt.mono (F' := fun k => w.heap.size ≤ k ∧ k < waA.heap.size) fun k hk => by have := HBel.out.size;  omega
  have HRdA := Lib.hid (hrl.grow hal)
  replace HBel := Lib.hid (HBel.out.trans (hbb.mono HBel.out.size))
  obtain ⟨wA, hwA⟩ : ∃ x, waA.alloc (.cells #[.slice (some ⟨bA, oA, none⟩) 4 cA, .slice AA 0 dA] 37) = x := ⟨_, rfl⟩
  change BoxAt (waA.alloc (.cells #[.slice (some ⟨bA, oA, none⟩) 4 cA, .slice AA 0 dA] 37)) _ _ _ at hX
  rw [hwA] at hX HRdA HBel   
  have HBxA := Lib.hid hX
  clear hal hX hbb hr hb hrl
  obtain ⟨pA0, pA1, pA2, pA3⟩ := HBxA.out.two
  go_wp2_with fail
  clear hwA
  refine (array_Read (doneTo dsA 2) 3 _ _ _ HRdA.out (doneTo_good dsA 2).1).mono ?_
  rintro e w3 ⟨v3, rfl, hr3, hb3⟩
  rw [rA] at hr3 ⊢
  obtain ⟨Ar, cr, rfl, _, _⟩ := hr3.shape
  replace HBel := Lib.hid (HBel.out.trans (hb3.mono HBel.out.size))
  have hc2 := run_conv hr3 Tryd.underlying22 Tryd.underlying5 Tryd.underlying9
  have hst : (strB [97, 98, 99, 100]).toList = [97, 98, 99, 100] := strB_toList _
  rw [show ([97, 98, 99, 100] : List UInt8).length = 4 from rfl] at hc2
  clear hr3 hb3 pA0 pA1 pA2 pA3
  go_wp2
  go_ret
  exact ⟨rfl, HBel.out⟩
set_option maxRecDepth 100000 in
set_option maxHeartbeats 1600000 in
theorem top_full (w : World) (hv : Vars w) :
    Calls Tryd.prog 17 #[] w fun e w' => ∃ v' u, e = .returned (.tuple #[v', u, .bool true]) ∧ RdA w' (fun k => w.heap.size ≤ k) v' fullA ∧ RdBB w' (fun k => w.heap.size ≤ k) u wantF ∧ Below w.heap.size w w' := by
  have hb1 := below_alloc w (.cells #[.slice none 0 0, .slice none 0 0] 37)
  have hX := boxAt_new w 37 [.slice none 0 0, .slice none 0 0]
  change BoxAt (w.alloc (.cells #[.slice none 0 0, .slice none 0 0] 37)) _ _ _ at hX
  have hsz : (w.alloc (.cells #[.slice none 0 0, .slice none 0 0] 37)).heap.size = w.heap.size + 1 := alloc_size _ _
  obtain ⟨wr, hwr⟩ : ∃ x, w.alloc (.cells #[.slice none 0 0, .slice none 0 0] 37) = x := ⟨_, rfl⟩
  rw [hwr] at hb1 hX hsz
  have hrow : RdL RV (wr.alloc (.cells (tsF.map Value.string).toArray 9)) (fun _ => True) (.slice (some ⟨wr.heap.size, 0, none⟩) 9 9) (tsF.map Value.string) := pieces_rd wr tsF (by decide)
  have hb0 := below_alloc wr (.cells (tsF.map Value.string).toArray 9)
  obtain ⟨w1, hw1⟩ : ∃ x, wr.alloc (.cells (tsF.map Value.string).toArray 9) = x := ⟨_, rfl⟩
  rw [hw1] at hrow hb0
  have hb2 := hb1.trans (hb0.mono hb1.size)
  have HBel := Lib.hid hb2
  have HBxR := Lib.hid (hX.grow hb0)
  have HV := Lib.hid (hv.grow hb2)
  have HRow := Lib.hid hrow
  have HSZ := Lib.hid hsz
  rw [hsz] at hrow
  clear hv hrow hb0 hb1 hb2 hX hsz
  go_enter Tryd.func17, Tryd.ntmps17
  go_wp2_with fail
  rw [show wr.alloc (.cells #[.string ⟨#[119, 114, 105, 116, 101, 32, 48, 32, 48, 48, 48, 49, 48, 50, 48, 51]⟩, .string ⟨#[119, 114, 105, 116, 101, 32, 49, 32, 49, 48, 49, 49, 49, 50, 49, 51]⟩, .string ⟨#[119, 114, 105, 116, 101, 32, 50, 32, 50, 48, 50, 49, 50, 50, 50, 51]⟩, .string ⟨#[119, 114, 105, 116, 101, 32, 51, 32, 51, 48, 51, 49, 51, 50, 51, 51]⟩, .string ⟨#[119, 114, 105, 116, 101, 32, 52, 32, 52, 48, 52, 49, 52, 50, 52, 51]⟩, .string ⟨#[119, 114, 105, 116, 101, 32, 53, 32, 53, 48, 53, 49, 53, 50, 53, 51]⟩, .string ⟨#[119, 114, 105, 116, 101, 32, 54, 32, 54, 48, 54, 49, 54, 50, 54, 51]⟩, .string ⟨#[119, 114, 105, 116, 101, 32, 55, 32, 55, 48, 55, 49, 55, 50, 55, 51]⟩, .string ⟨#[119, 114, 105, 116, 101, 32, 56, 32, 56, 48, 56, 49, 56, 50, 56, 51]⟩] 9) = w1 from hw1]
  clear hwr hw1
  obtain ⟨pR0, pR1, pR2, pR3⟩ := HBxR.out.two
  refine (top_done tsF dsF _ _ _ HRow.out okF HV.out).mono ?_
  rintro e waA ⟨vA, rfl, hr, hb⟩
  obtain ⟨bA, oA, cA, AA, dA, rfl, _, _, hcA, hmA⟩ := RdA_open hr (doneTo_good dsF _).1
  rw [show (doneTo dsF tsF.length).ints.length = 0 by rw [(doneTo_good dsF _).2]; rfl] at hr ⊢
  have ord0A : w.heap.size ≤ waA.heap.size := Nat.le_trans HBel.out.size hb.size
  have ordRA : w.heap.size < waA.heap.size := Nat.lt_of_lt_of_le HBxR.out.lt hb.size
  have hal := below_alloc waA (.cells #[.slice (some ⟨bA, oA, none⟩) 4 cA, .slice AA 0 dA] 37)
  have hX := boxAt_new waA 37 [.slice (some ⟨bA, oA, none⟩) 4 cA, .slice AA 0 dA]
  have hbb := hb.trans (hal.mono hb.size)
  have hrl := hr.lt.mono (F' := fun k => w.heap.size < k ∧ k < waA.heap.size) fun k hk => by have := HBel.out.size; have := HBxR.out.lt; omega
  have HRdA := Lib.hid (hrl.grow hal)
  replace HBxR := Lib.hid (HBxR.out.grow hbb)
  replace HBel := Lib.hid (HBel.out.trans (hbb.mono HBel.out.size))
  clear pR0 pR1 pR2 pR3
  obtain ⟨wA, hwA⟩ : ∃ x, waA.alloc (.cells #[.slice (some ⟨bA, oA, none⟩) 4 cA, .slice AA 0 dA] 37) = x := ⟨_, rfl⟩
  change BoxAt (waA.alloc (.cells #[.slice (some ⟨bA, oA, none⟩) 4 cA, .slice AA 0 dA] 37)) _ _ _ at hX
  rw [hwA] at hX HRdA HBel HBxR  
  have HBxA := Lib.hid hX
  clear hal hX hbb hr hb hrl
  obtain ⟨pR0, pR1, pR2, pR3⟩ := HBxR.out.two
  obtain ⟨pA0, pA1, pA2, pA3⟩ := HBxA.out.two
  go_wp2_with fail
  refine (array_Blocks fullA _ _ _ HRdA.out full_good.1).mono ?_
  rintro e w3 ⟨v3, rfl, hr3, hb3⟩
  rw [show blocksA fullA.disks = (wantF, 0) from bF] at hr3 ⊢
  obtain ⟨Ar, cr, rfl, _, _⟩ := hr3.shape
  rw [show wantF.length = 9 from rfl] at hr3 ⊢
  have hzz := HBxR.out.grow hb3
  have haa := HRdA.out.grow hb3
  have hbb := HBel.out.trans (hb3.mono HBel.out.size)
  have hlt := HBxR.out.lt
  have hA3 := HBxA.out.grow hb3
  clear pA0 pA1 pA2 pA3 pR0 pR1 pR2 pR3
  obtain ⟨pA0, pA1, pA2, pA3⟩ := hA3.two
  obtain ⟨pR0, pR1, pR2, pR3⟩ := hzz.two
  have hRb := ret_box (F' := fun k => w.heap.size ≤ k) hzz hbb (Nat.le_refl _) haa (fun k hk => by omega) fun k hk => by omega
  have h7 : RdBB (set2 w3 w.heap.size _ _) _ _ _ := okBB.set2 hr3 (b := w.heap.size) (v0 := .slice (some ⟨bA, oA, none⟩) 4 cA) (v1 := .slice AA 0 dA) fun q hq => by omega
  have HF := Lib.hid (And.intro hRb (okBB.mono h7 (F' := fun q => w.heap.size ≤ q) fun q hq => by omega))
  clear hRb h7 hr3 hzz haa hbb hA3 hb3
  go_wp2
  exact bodyPost_ret (v := .tuple #[.agg #[.slice (some ⟨bA, oA, none⟩) 4 cA, .slice AA 0 dA], .slice Ar 9 cr, .bool true]) (by simp [results, Tryd.results17, go_sem, *]) rfl ⟨_, _, rfl, HF.out.1.1, HF.out.2, HF.out.1.2⟩
end Go.Proofs.YtdcmbdghnkgghaaDoor

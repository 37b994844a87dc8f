/- Chapter 10: the closed fact of its statements. -/
import Derived.Test.YtlbnkoahkfhimaaC11
import Derived.Test.YtlbnkoahkfhimaaC9c
namespace Go.Proofs.Ytlbnkoahkfhimaa
set_option linter.unusedVariables false
open Go Go.RowKit M
def h10a : Arr := (rotA newA 2 1 0).1
def h10b : Arr := (goneA h10a 3).1
theorem h10_facts : (rotA newA 2 1 0).2 = 0 ∧ (goneA h10a 3).2 = 0 ∧ (rotA h10b 3 0 0).2 = 6 ∧ (cellAt h10a.disks 2 1).length = 8 ∧ (cellAt h10a.disks 2 1).getD 0 0 = 3 ∧ (cellAt h10b.disks 3 0).length = 0 := by decide +kernel
theorem rot_ints' {a : Arr} (h : a.ints = []) (d s n : Int) : (rotA a d s n).1.ints = [] := by
  rcases rot_cases a d s n with e | ⟨_, _, _, _, _, _, _, _, _, e⟩ <;> rw [e] <;> exact h
theorem gone_ints' {a : Arr} (h : a.ints = []) (d : Int) : (goneA a d).1.ints = [] := by
  rcases gone_cases a d with e | ⟨_, _, _, e⟩ <;> rw [e] <;> exact h
theorem h10_sh : Shape h10a.disks ∧ Shape h10b.disks := ⟨rot_shape good_new.1.shape 2 1 0, gone_shape' (rot_shape good_new.1.shape 2 1 0) 3⟩
theorem h10_no : h10a.ints = [] ∧ h10b.ints = [] := ⟨rot_ints' rfl 2 1 0, gone_ints' (rot_ints' rfl 2 1 0) 3⟩
set_option maxRecDepth 100000 in
set_option maxHeartbeats 1600000 in
theorem law10_alive (w : World) : Calls Try.prog 42 #[] w fun e w' => e = .returned (.bool true) ∧ Below w.heap.size w w' := by
  have HBel := Lib.hid (Below.refl w.heap.size w)
  go_enter Try.func42, Try.ntmps42
  go_wp2_with fail
  refine (ref_New _).mono ?_
  rintro e w1 ⟨v1, rfl, hr1, hb1⟩
  replace HBel := Lib.hid (HBel.out.trans (hb1.mono HBel.out.size))
  obtain ⟨b1, o1, c1, A1, d1, rfl, _, _, _, _⟩ := RdA_open hr1 good_new.1.shape
  rw [show newA.ints.length = 0 from rfl] at hr1 ⊢
  have HR1 := Lib.hid hr1
  clear hr1 hb1
  go_wp2_with fail
  refine (harm_Rot newA 2 1 0 _ _ _ HR1.out good_new.1.shape rfl).mono ?_
  rintro e waA ⟨vA, rfl, hr, hb⟩
  rw [h10_facts.1]
  change RdA waA _ _ h10a at hr
  obtain ⟨bA, oA, cA, AA, dA, rfl, _, _, hcA, hmA⟩ := RdA_open hr h10_sh.1
  rw [show h10a.ints.length = 0 by rw [h10_no.1]; rfl] at hr ⊢
  have ord0A : w.heap.size ≤ waA.heap.size := Nat.le_trans HBel.out.size hb.size
  have hal := below_alloc waA (.cells #[.slice (some ⟨bA, oA, none⟩) 4 cA, .slice AA 0 dA] 41)
  have hX := boxAt_new waA 41 [.slice (some ⟨bA, oA, none⟩) 4 cA, .slice AA 0 dA]
  have hbb := hb.trans (hal.mono hb.size)
  have hrl := hr.lt.mono (F' := fun k => w1.heap.size ≤ k ∧ k < waA.heap.size) fun k hk => by  omega
  have HRdA := Lib.hid (hrl.grow hal)
  replace HBel := Lib.hid (HBel.out.trans (hbb.mono HBel.out.size))
  obtain ⟨wA, hwA⟩ : ∃ x, waA.alloc (.cells #[.slice (some ⟨bA, oA, none⟩) 4 cA, .slice AA 0 dA] 41) = x := ⟨_, rfl⟩
  change BoxAt (waA.alloc (.cells #[.slice (some ⟨bA, oA, none⟩) 4 cA, .slice AA 0 dA] 41)) _ _ _ at hX
  rw [hwA] at hX HRdA HBel   
  have HBxA := Lib.hid hX
  clear hal hX hbb hr hb hrl
  obtain ⟨pA0, pA1, pA2, pA3⟩ := HBxA.out.two
  go_wp2_with fail
  clear hwA
  refine (harm_Gone h10a 3 _ _ _ HRdA.out h10_sh.1 h10_no.1).mono ?_
  rintro e waB ⟨vB, rfl, hr, hb⟩
  rw [h10_facts.2.1]
  change RdA waB _ _ h10b at hr
  obtain ⟨bB, oB, cB, AB, dB, rfl, _, _, hcB, hmB⟩ := RdA_open hr h10_sh.2
  rw [show h10b.ints.length = 0 by rw [h10_no.2]; rfl] at hr ⊢
  have ord0B : w.heap.size ≤ waB.heap.size := Nat.le_trans HBel.out.size hb.size
  have ordAB : waA.heap.size < waB.heap.size := Nat.lt_of_lt_of_le HBxA.out.lt hb.size
  have hal := below_alloc waB (.cells #[.slice (some ⟨bB, oB, none⟩) 4 cB, .slice AB 0 dB] 41)
  have hX := boxAt_new waB 41 [.slice (some ⟨bB, oB, none⟩) 4 cB, .slice AB 0 dB]
  have hbb := hb.trans (hal.mono hb.size)
  have hrl := hr.lt.mono (F' := fun k => waA.heap.size < k ∧ k < waB.heap.size) fun k hk => by have := HBxA.out.lt; omega
  have HRdB := Lib.hid (hrl.grow hal)
  replace HBxA := Lib.hid (HBxA.out.grow hbb)
  replace HRdA := Lib.hid (HRdA.out.grow hbb)
  replace HBel := Lib.hid (HBel.out.trans (hbb.mono HBel.out.size))
  clear pA0 pA1 pA2 pA3
  obtain ⟨wB, hwB⟩ : ∃ x, waB.alloc (.cells #[.slice (some ⟨bB, oB, none⟩) 4 cB, .slice AB 0 dB] 41) = x := ⟨_, rfl⟩
  change BoxAt (waB.alloc (.cells #[.slice (some ⟨bB, oB, none⟩) 4 cB, .slice AB 0 dB] 41)) _ _ _ at hX
  rw [hwB] at hX HRdB HBel HBxA HRdA 
  have HBxB := Lib.hid hX
  clear hal hX hbb hr hb hrl
  obtain ⟨pA0, pA1, pA2, pA3⟩ := HBxA.out.two
  obtain ⟨pB0, pB1, pB2, pB3⟩ := HBxB.out.two
  go_wp2_with fail
  clear hwB
  refine (harm_Rot h10b 3 0 0 _ _ _ HRdB.out h10_sh.2 h10_no.2).mono ?_
  rintro e waC ⟨vC, rfl, hr, hb⟩
  rw [h10_facts.2.2.1]
  obtain ⟨bC, oC, cC, AC, dC, rfl, _, _, hcC, hmC⟩ := RdA_open hr (rot_shape h10_sh.2 3 0 0)
  rw [show (rotA h10b 3 0 0).1.ints.length = 0 by rw [rot_ints' h10_no.2 3 0 0]; rfl] at hr ⊢
  have ord0C : w.heap.size ≤ waC.heap.size := Nat.le_trans HBel.out.size hb.size
  have ordAC : waA.heap.size < waC.heap.size := Nat.lt_of_lt_of_le HBxA.out.lt hb.size
  have ordBC : waB.heap.size < waC.heap.size := Nat.lt_of_lt_of_le HBxB.out.lt hb.size
  have hal := below_alloc waC (.cells #[.slice (some ⟨bC, oC, none⟩) 4 cC, .slice AC 0 dC] 41)
  have hX := boxAt_new waC 41 [.slice (some ⟨bC, oC, none⟩) 4 cC, .slice AC 0 dC]
  have hbb := hb.trans (hal.mono hb.size)
  have hrl := hr.lt.mono (F' := fun k => waB.heap.size < k ∧ k < waC.heap.size) fun k hk => by have := HBxA.out.lt; have := HBxB.out.lt; omega
  have HRdC := Lib.hid (hrl.grow hal)
  replace HBxA := Lib.hid (HBxA.out.grow hbb)
  replace HBxB := Lib.hid (HBxB.out.grow hbb)
  replace HRdA := Lib.hid (HRdA.out.grow hbb)
  replace HRdB := Lib.hid (HRdB.out.grow hbb)
  replace HBel := Lib.hid (HBel.out.trans (hbb.mono HBel.out.size))
  clear pA0 pA1 pA2 pA3 pB0 pB1 pB2 pB3
  obtain ⟨wC, hwC⟩ : ∃ x, waC.alloc (.cells #[.slice (some ⟨bC, oC, none⟩) 4 cC, .slice AC 0 dC] 41) = x := ⟨_, rfl⟩
  change BoxAt (waC.alloc (.cells #[.slice (some ⟨bC, oC, none⟩) 4 cC, .slice AC 0 dC] 41)) _ _ _ at hX
  rw [hwC] at hX HRdC HBel HBxA HBxB HRdA HRdB 
  have HBxC := Lib.hid hX
  clear hal hX hbb hr hb hrl
  obtain ⟨pA0, pA1, pA2, pA3⟩ := HBxA.out.two
  obtain ⟨pB0, pB1, pB2, pB3⟩ := HBxB.out.two
  obtain ⟨pC0, pC1, pC2, pC3⟩ := HBxC.out.two
  have hDA := (RdA.parts HRdA.out).1
  have hDB := (RdA.parts HRdB.out).1
  obtain ⟨e1, e2, e3, E4, e5, hu1, hd1, hd2, hu2, hR2⟩ := disks_cell hDA h10_sh.1 (d := 2) (s := 1) (by decide) (by decide)
  obtain ⟨f1, f2, f3, F4, f5, hv1, gd1, gd2, hv2, gR2⟩ := disks_cell hDB h10_sh.2 (d := 3) (s := 0) (by decide) (by decide)
  obtain ⟨b8, o8, u8, rfl, _, hu8, hR8⟩ := hR2.at_ (k := 0) (by rw [h10_facts.2.2.2.1]; decide)
  have hx8 : u8 = .int .u8 3 := by
    have h1 : (cellAt h10a.disks 2 1)[0]'(by rw [h10_facts.2.2.2.1]; decide) = 3 := by
      have h2 := h10_facts.2.2.2.2.1
      have hlt : 0 < (cellAt h10a.disks 2 1).length := by rw [h10_facts.2.2.2.1]; decide
      rw [List.getD_eq_getElem?_getD, List.getElem?_eq_getElem hlt, Option.getD_some] at h2
      exact h2
    rw [hR8, h1]
    rfl
  subst hx8
  have hl1 := h10_facts.2.2.2.1
  have hl2 := h10_facts.2.2.2.2.2
  rw [hl1] at hu2
  rw [hl2] at hv2
  rw [Nat.add_zero] at hu8 hv2
  unfold maxLen at hd2 gd2
  clear hDA hDB hR2 gR2 hR8
  go_wp2
  go_ret
  exact ⟨rfl, HBel.out⟩
end Go.Proofs.Ytlbnkoahkfhimaa

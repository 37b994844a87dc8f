/- Chapter 9: the closed fact of its statements. -/
import Derived.Test.YtlbnkoahkfhimaaC13
import Derived.Test.YtlbnkoahkfhimaaC9g
namespace Go.Proofs.Ytlbnkoahkfhimaa
set_option linter.unusedVariables false
open Go Go.RowKit M
def m9a : Arr := (rotA newA 1 1 3).1
def m9x : Arr := (mendA m9a 1).1
theorem m9_facts : (mendA m9a 1).2.1 = 1 ∧ (mendA m9a 1).2.2 = 0 ∧ worstA m9a.disks = 1 ∧ worstA m9x.disks = 0 ∧ m9x.disks = (mendsTo m9a 3).disks ∧ mendNs m9a 3 = [0, 1, 0] := by decide +kernel
theorem rot_ints9 {a : Arr} (h : a.ints = []) (d s n : Int) : (rotA a d s n).1.ints = [] := by
  rcases rot_cases a d s n with e | ⟨_, _, _, _, _, _, _, _, _, e⟩ <;> rw [e] <;> exact h
theorem m9_sh : Shape m9a.disks ∧ Shape m9x.disks ∧ Shape (mendsTo m9a 3).disks := ⟨rot_shape good_new.1.shape 1 1 3, mend_shape (rot_shape good_new.1.shape 1 1 3) 1, mends_shape (rot_shape good_new.1.shape 1 1 3) 3⟩
theorem m9_no : m9a.ints = [] ∧ m9x.ints = [] ∧ (mendsTo m9a 3).ints = [] := ⟨rot_ints9 rfl 1 1 3, mend_ints (rot_ints9 rfl 1 1 3) 1, mends_ints (rot_ints9 rfl 1 1 3) 3⟩
set_option maxRecDepth 100000 in
set_option maxHeartbeats 1600000 in
theorem law9_alive (w : World) : Calls Try.prog 50 #[] w fun e w' => e = .returned (.bool true) ∧ Below w.heap.size w w' := by
  have HBel := Lib.hid (Below.refl w.heap.size w)
  go_enter Try.func50, Try.ntmps50
  go_wp2_with fail
  refine (ref_New _).mono ?_
  rintro e w1 ⟨v1, rfl, hr1, hb1⟩
  replace HBel := Lib.hid (HBel.out.trans (hb1.mono HBel.out.size))
  obtain ⟨b1, o1, c1, A1, d1, rfl, _, _, _, _⟩ := RdA_open hr1 good_new.1.shape
  rw [show newA.ints.length = 0 from rfl] at hr1 ⊢
  have HR1 := Lib.hid hr1
  clear hr1 hb1
  go_wp2_with fail
  refine (ref_Rot newA 1 1 3 _ _ _ HR1.out good_new.1.shape).mono ?_
  rintro e waA ⟨vA, rfl, hr, hb⟩
  change RdA waA _ _ m9a at hr
  generalize (rotA newA 1 1 3).2 = ec at *
  obtain ⟨bA, oA, cA, AA, dA, rfl, _, _, hcA, hmA⟩ := RdA_open hr m9_sh.1
  rw [show m9a.ints.length = 0 by rw [m9_no.1]; rfl] at hr ⊢
  have ord0A : w.heap.size ≤ waA.heap.size := Nat.le_trans HBel.out.size hb.size
  have hal := below_alloc waA (.cells #[.slice (some ⟨bA, oA, none⟩) 4 cA, .slice AA 0 dA] 41)
  have hX := boxAt_new waA 41 [.slice (some ⟨bA, oA, none⟩) 4 cA, .slice AA 0 dA]
  have hbb := hb.trans (hal.mono hb.size)
  have hrl := hr.lt.mono (F' := fun k => w.heap.size ≤ k ∧ k < waA.heap.size) fun k hk => by have := HBel.out.size;  omega
  have HRdA := Lib.hid (hrl.grow hal)
  replace HBel := Lib.hid (HBel.out.trans (hbb.mono HBel.out.size))
  obtain ⟨wA, hwA⟩ : ∃ x, waA.alloc (.cells #[.slice (some ⟨bA, oA, none⟩) 4 cA, .slice AA 0 dA] 41) = x := ⟨_, rfl⟩
  change BoxAt (waA.alloc (.cells #[.slice (some ⟨bA, oA, none⟩) 4 cA, .slice AA 0 dA] 41)) _ _ _ at hX
  rw [hwA] at hX HRdA HBel   
  have HBxA := Lib.hid hX
  clear hal hX hbb hr hb hrl
  obtain ⟨pA0, pA1, pA2, pA3⟩ := HBxA.out.two
  go_wp2_with fail
  clear hwA
  refine (mend_Stripe m9a 1 _ _ _ HRdA.out m9_sh.1 m9_no.1).mono ?_
  rintro e waB ⟨vB, rfl, hr, hb⟩
  rw [m9_facts.1, m9_facts.2.1]
  change RdA waB _ _ m9x at hr
  obtain ⟨bB, oB, cB, AB, dB, rfl, _, _, hcB, hmB⟩ := RdA_open hr m9_sh.2.1
  rw [show m9x.ints.length = 0 by rw [m9_no.2.1]; rfl] at hr ⊢
  have ord0B : w.heap.size ≤ waB.heap.size := Nat.le_trans HBel.out.size hb.size
  have ordAB : waA.heap.size < waB.heap.size := Nat.lt_of_lt_of_le HBxA.out.lt hb.size
  have hal := below_alloc waB (.cells #[.slice (some ⟨bB, oB, none⟩) 4 cB, .slice AB 0 dB] 41)
  have hX := boxAt_new waB 41 [.slice (some ⟨bB, oB, none⟩) 4 cB, .slice AB 0 dB]
  have hbb := hb.trans (hal.mono hb.size)
  have hrl := hr.lt.mono (F' := fun k => waA.heap.size < k ∧ k < waB.heap.size) fun k hk => by have := HBel.out.size; have := HBxA.out.lt; omega
  have HRdB := Lib.hid (hrl.grow hal)
  replace HBxA := Lib.hid (HBxA.out.grow hbb)
  replace HRdA := Lib.hid (HRdA.out.grow hbb)
  replace HBel := Lib.hid (HBel.out.trans (hbb.mono HBel.out.size))
  clear pA0 pA1 pA2 pA3
  obtain ⟨wB, hwB⟩ : ∃ x, waB.alloc (.cells #[.slice (some ⟨bB, oB, none⟩) 4 cB, .slice AB 0 dB] 41) = x := ⟨_, rfl⟩
  change BoxAt (waB.alloc (.cells #[.slice (some ⟨bB, oB, none⟩) 4 cB, .slice AB 0 dB] 41)) _ _ _ at hX
  rw [hwB] at hX HRdB HBel HBxA HRdA 
  have HBxB := Lib.hid hX
  clear hal hX hbb hr hb hrl
  obtain ⟨pA0, pA1, pA2, pA3⟩ := HBxA.out.two
  obtain ⟨pB0, pB1, pB2, pB3⟩ := HBxB.out.two
  go_wp2_with fail
  clear hwB
  refine (mend_All m9a _ _ _ HRdA.out m9_sh.1 m9_no.1).mono ?_
  rintro e waC ⟨vC, uC, rfl, hr, hu, hb⟩
  obtain ⟨An, cn, rfl, hcn, hcnm⟩ := hu.shape
  rw [mendNs_len] at hu hcn ⊢
  obtain ⟨bC, oC, cC, AC, dC, rfl, _, _, hcC, hmC⟩ := RdA_open hr m9_sh.2.2
  rw [show (mendsTo m9a 3).ints.length = 0 by rw [m9_no.2.2]; rfl] at hr ⊢
  have ord0C : w.heap.size ≤ waC.heap.size := Nat.le_trans HBel.out.size hb.size
  have ordAC : waA.heap.size < waC.heap.size := Nat.lt_of_lt_of_le HBxA.out.lt hb.size
  have ordBC : waB.heap.size < waC.heap.size := Nat.lt_of_lt_of_le HBxB.out.lt hb.size
  have hal := below_alloc waC (.cells #[.slice (some ⟨bC, oC, none⟩) 4 cC, .slice AC 0 dC] 41)
  have hX := boxAt_new waC 41 [.slice (some ⟨bC, oC, none⟩) 4 cC, .slice AC 0 dC]
  have hbb := hb.trans (hal.mono hb.size)
  have hrl := hr.lt.mono (F' := fun k => k < waA.heap.size ∨ waB.heap.size < k ∧ k < waC.heap.size) fun k hk => by have := HBel.out.size; have := HBxA.out.lt; have := HBxB.out.lt; omega
  have HRdC := Lib.hid (hrl.grow hal)
  replace HBxA := Lib.hid (HBxA.out.grow hbb)
  replace HBxB := Lib.hid (HBxB.out.grow hbb)
  replace HRdA := Lib.hid (HRdA.out.grow hbb)
  replace HRdB := Lib.hid (HRdB.out.grow hbb)
  replace HBel := Lib.hid (HBel.out.trans (hbb.mono HBel.out.size))
  clear pA0 pA1 pA2 pA3 pB0 pB1 pB2 pB3
  have HNS := Lib.hid ((okL okI).grow hu hal)
  obtain ⟨wC, hwC⟩ : ∃ x, waC.alloc (.cells #[.slice (some ⟨bC, oC, none⟩) 4 cC, .slice AC 0 dC] 41) = x := ⟨_, rfl⟩
  change BoxAt (waC.alloc (.cells #[.slice (some ⟨bC, oC, none⟩) 4 cC, .slice AC 0 dC] 41)) _ _ _ at hX
  rw [hwC] at hX HRdC HBel HBxA HBxB HRdA HRdB  HNS
  have HBxC := Lib.hid hX
  clear hal hX hbb hr hb hrl
  obtain ⟨pA0, pA1, pA2, pA3⟩ := HBxA.out.two
  obtain ⟨pB0, pB1, pB2, pB3⟩ := HBxB.out.two
  obtain ⟨pC0, pC1, pC2, pC3⟩ := HBxC.out.two
  go_wp2_with fail
  clear hwC
  clear hu
  refine (mend_Worst m9a _ _ _ HRdA.out m9_sh.1).mono ?_
  rintro e wq1 ⟨rfl, hb⟩
  rw [m9_facts.2.2.1]
  replace HBxA := Lib.hid (HBxA.out.grow hb)
  replace HBxB := Lib.hid (HBxB.out.grow hb)
  replace HBxC := Lib.hid (HBxC.out.grow hb)
  replace HRdA := Lib.hid (HRdA.out.grow hb)
  replace HRdB := Lib.hid (HRdB.out.grow hb)
  replace HRdC := Lib.hid (HRdC.out.grow hb)
  replace HBel := Lib.hid (HBel.out.trans (hb.mono HBel.out.size))
  replace HNS := Lib.hid ((okL okI).grow HNS.out hb)
  clear pA0 pA1 pA2 pA3 pB0 pB1 pB2 pB3 pC0 pC1 pC2 pC3
  clear hb
  obtain ⟨pA0, pA1, pA2, pA3⟩ := HBxA.out.two
  obtain ⟨pB0, pB1, pB2, pB3⟩ := HBxB.out.two
  obtain ⟨pC0, pC1, pC2, pC3⟩ := HBxC.out.two
  go_wp2_with fail
  refine (mend_Worst m9x _ _ _ HRdB.out m9_sh.2.1).mono ?_
  rintro e wq2 ⟨rfl, hb⟩
  rw [m9_facts.2.2.2.1]
  replace HBxA := Lib.hid (HBxA.out.grow hb)
  replace HBxB := Lib.hid (HBxB.out.grow hb)
  replace HBxC := Lib.hid (HBxC.out.grow hb)
  replace HRdA := Lib.hid (HRdA.out.grow hb)
  replace HRdB := Lib.hid (HRdB.out.grow hb)
  replace HRdC := Lib.hid (HRdC.out.grow hb)
  replace HBel := Lib.hid (HBel.out.trans (hb.mono HBel.out.size))
  replace HNS := Lib.hid ((okL okI).grow HNS.out hb)
  clear pA0 pA1 pA2 pA3 pB0 pB1 pB2 pB3 pC0 pC1 pC2 pC3
  clear hb
  obtain ⟨pA0, pA1, pA2, pA3⟩ := HBxA.out.two
  obtain ⟨pB0, pB1, pB2, pB3⟩ := HBxB.out.two
  obtain ⟨pC0, pC1, pC2, pC3⟩ := HBxC.out.two
  go_wp2_with fail
  refine (ref_Same _ _ _ _ _ _ _ HRdB.out HRdC.out m9_sh.2.1 m9_sh.2.2 m9_no.2.1 m9_no.2.2).mono ?_
  rintro e wq3 ⟨rfl, hb⟩
  rw [show (m9x.disks == (mendsTo m9a 3).disks) = true by rw [← m9_facts.2.2.2.2.1]; exact beq_self_eq_true _]
  replace HBxA := Lib.hid (HBxA.out.grow hb)
  replace HBxB := Lib.hid (HBxB.out.grow hb)
  replace HBxC := Lib.hid (HBxC.out.grow hb)
  replace HRdA := Lib.hid (HRdA.out.grow hb)
  replace HRdB := Lib.hid (HRdB.out.grow hb)
  replace HRdC := Lib.hid (HRdC.out.grow hb)
  replace HBel := Lib.hid (HBel.out.trans (hb.mono HBel.out.size))
  replace HNS := Lib.hid ((okL okI).grow HNS.out hb)
  clear pA0 pA1 pA2 pA3 pB0 pB1 pB2 pB3 pC0 pC1 pC2 pC3
  clear hb
  obtain ⟨pA0, pA1, pA2, pA3⟩ := HBxA.out.two
  obtain ⟨pB0, pB1, pB2, pB3⟩ := HBxB.out.two
  obtain ⟨pC0, pC1, pC2, pC3⟩ := HBxC.out.two
  have hns := HNS.out
  rw [m9_facts.2.2.2.2.2] at hns
  obtain ⟨bn, on, un, rfl, _, hun, hRn⟩ := hns.at_ (k := 1) (by decide)
  obtain rfl : un = .int .i64 1 := hRn
  clear hns
  unfold maxLen at hcnm
  go_wp2
  go_ret
  exact ⟨rfl, HBel.out⟩
end Go.Proofs.Ytlbnkoahkfhimaa

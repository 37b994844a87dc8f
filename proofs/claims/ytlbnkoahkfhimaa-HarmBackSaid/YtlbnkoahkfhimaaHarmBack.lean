/- Chapter 10: HarmBack holds for every input: the call returns true, and each argument reads behind it as it read before. -/
import Derived.Test.YtlbnkoahkfhimaaOpen3
import Derived.Test.YtlbnkoahkfhimaaC11
import Derived.Test.YtlbnkoahkfhimaaC9f
import Derived.Test.YtlbnkoahkfhimaaC9g
import Derived.Test.YtlbnkoahkfhimaaL10
namespace Go.Proofs.Ytlbnkoahkfhimaa
set_option linter.unusedVariables false
open Go Go.RowKit M
set_option maxRecDepth 100000 in
set_option maxHeartbeats 3200000 in
theorem harmBack_walk (l : List Step) (vl : Value) (d s n : Int) (w : World) (hl : RdSts w (fun _ => True) vl l) (_ : -9223372036854775808 ≤ d) (_ : d ≤ 9223372036854775807) (_ : -9223372036854775808 ≤ s) (_ : s ≤ 9223372036854775807) (_ : -9223372036854775808 ≤ n) (_ : n ≤ 9223372036854775807) :
    Calls Try.prog 10 #[vl, .int .i64 d, .int .i64 s, .int .i64 n] w fun e w' => e = .returned (.bool true) ∧ Below w.heap.size w w' := by
  obtain ⟨Ast, cst, rfl, _, _⟩ := id hl
  have HL0 := Lib.hid hl
  have HBel := Lib.hid (Below.refl w.heap.size w)
  clear hl
  go_enter Try.func10, Try.ntmps10
  go_wp2_with fail
  refine (law10_alive _).mono ?_
  rintro e w0 ⟨rfl, hb⟩
  replace HBel := Lib.hid (HBel.out.trans (hb.mono HBel.out.size))
  have HL := Lib.hid (HL0.out.below hb fun _ _ hk => hk)
  clear hb HL0
  go_wp2_with fail
  refine (ref_Play l _ _ _ HL.out).mono ?_
  rintro e waA ⟨vA, uu, rfl, hr, hu, hb⟩
  obtain ⟨bA, oA, cA, AA, dA, rfl, _, _, hcA, hmA⟩ := RdA_open hr (playTo_good l 100).1
  rw [show (playA l).ints.length = 0 by rw [show (playA l).ints = [] from (playTo_good l 100).2]; rfl] at hr ⊢
  have ord0A : w.heap.size ≤ waA.heap.size := Nat.le_trans HBel.out.size hb.size
  have hal := below_alloc waA (.cells #[.slice (some ⟨bA, oA, none⟩) 4 cA, .slice AA 0 dA] 41)
  have hX := boxAt_new waA 41 [.slice (some ⟨bA, oA, none⟩) 4 cA, .slice AA 0 dA]
  have hbb := hb.trans (hal.mono hb.size)
  have hrl := hr.lt.mono (F' := fun k => w.heap.size ≤ k ∧ k < waA.heap.size) fun k hk => by have := HBel.out.size;  omega
  have HRdA := Lib.hid (hrl.grow hal)
  replace HBel := Lib.hid (HBel.out.trans (hbb.mono HBel.out.size))
  obtain ⟨wA, hwA⟩ : ∃ x, waA.alloc (.cells #[.slice (some ⟨bA, oA, none⟩) 4 cA, .slice AA 0 dA] 41) = x := ⟨_, rfl⟩
  change BoxAt (waA.alloc (.cells #[.slice (some ⟨bA, oA, none⟩) 4 cA, .slice AA 0 dA] 41)) _ _ _ at hX
  rw [hwA] at hX HRdA HBel   
  have HBxA := Lib.hid hX
  clear hal hX hbb hr hb hrl
  obtain ⟨pA0, pA1, pA2, pA3⟩ := HBxA.out.two
  go_wp2_with fail
  clear hwA
  obtain ⟨hsh, hno⟩ := playTo_good l 100
  change Shape (playA l).disks at hsh
  change (playA l).ints = [] at hno
  generalize playA l = a at *
  have HSN := Lib.hid (And.intro hsh hno)
  have HSX := Lib.hid (And.intro (rot_shape hsh d s n) (rot_ints' hno d s n))
  have HSG := Lib.hid (And.intro (gone_shape' hsh d) (gone_ints' hno d))
  obtain ⟨hr1, hr2, _⟩ := rot_back hsh d s n
  have hg1 := gone_back a d
  have HBk := Lib.hid (And.intro hr1 (And.intro hr2 hg1))
  clear hsh hno hr1 hr2 hg1
  refine (harm_Rot a d s n _ _ _ HRdA.out HSN.out.1 HSN.out.2).mono ?_
  rintro e waX ⟨vX, rfl, hr, hb⟩
  obtain ⟨bX, oX, cX, AX, dX, rfl, _, _, hcX, hmX⟩ := RdA_open hr HSX.out.1
  rw [show (rotA a d s n).1.ints.length = 0 by rw [HSX.out.2]; rfl] at hr ⊢
  have ord0X : w.heap.size ≤ waX.heap.size := Nat.le_trans HBel.out.size hb.size
  have ordAX : waA.heap.size < waX.heap.size := Nat.lt_of_lt_of_le HBxA.out.lt hb.size
  have hal := below_alloc waX (.cells #[.slice (some ⟨bX, oX, none⟩) 4 cX, .slice AX 0 dX] 41)
  have hX := boxAt_new waX 41 [.slice (some ⟨bX, oX, none⟩) 4 cX, .slice AX 0 dX]
  have hbb := hb.trans (hal.mono hb.size)
  have hrl := hr.lt.mono (F' := fun k => waA.heap.size < k ∧ k < waX.heap.size) fun k hk => by have := HBel.out.size; have := HBxA.out.lt; omega
  have HRdX := Lib.hid (hrl.grow hal)
  replace HBxA := Lib.hid (HBxA.out.grow hbb)
  replace HRdA := Lib.hid (HRdA.out.grow hbb)
  replace HBel := Lib.hid (HBel.out.trans (hbb.mono HBel.out.size))
  clear pA0 pA1 pA2 pA3
  obtain ⟨wX, hwX⟩ : ∃ x, waX.alloc (.cells #[.slice (some ⟨bX, oX, none⟩) 4 cX, .slice AX 0 dX] 41) = x := ⟨_, rfl⟩
  change BoxAt (waX.alloc (.cells #[.slice (some ⟨bX, oX, none⟩) 4 cX, .slice AX 0 dX] 41)) _ _ _ at hX
  rw [hwX] at hX HRdX HBel HBxA HRdA 
  have HBxX := Lib.hid hX
  clear hal hX hbb hr hb hrl
  obtain ⟨pA0, pA1, pA2, pA3⟩ := HBxA.out.two
  obtain ⟨pX0, pX1, pX2, pX3⟩ := HBxX.out.two
  generalize hx : (rotA a d s n).1 = x at *
  generalize hxe : (rotA a d s n).2 = xe at *
  go_wp2_with fail
  clear hwX
  refine (harm_Rot x d s n _ _ _ HRdX.out HSX.out.1 HSX.out.2).mono ?_
  rintro e waY ⟨vY, rfl, hr, hb⟩
  rw [HBk.out.1] at hr ⊢
  change RdA waY _ _ a at hr
  obtain ⟨bY, oY, cY, AY, dY, rfl, _, _, hcY, hmY⟩ := RdA_open hr HSN.out.1
  rw [show a.ints.length = 0 by rw [HSN.out.2]; rfl] at hr ⊢
  have ord0Y : w.heap.size ≤ waY.heap.size := Nat.le_trans HBel.out.size hb.size
  have ordAY : waA.heap.size < waY.heap.size := Nat.lt_of_lt_of_le HBxA.out.lt hb.size
  have ordXY : waX.heap.size < waY.heap.size := Nat.lt_of_lt_of_le HBxX.out.lt hb.size
  have hal := below_alloc waY (.cells #[.slice (some ⟨bY, oY, none⟩) 4 cY, .slice AY 0 dY] 41)
  have hX := boxAt_new waY 41 [.slice (some ⟨bY, oY, none⟩) 4 cY, .slice AY 0 dY]
  have hbb := hb.trans (hal.mono hb.size)
  have hrl := hr.lt.mono (F' := fun k => waX.heap.size < k ∧ k < waY.heap.size) fun k hk => by have := HBel.out.size; have := HBxA.out.lt; have := HBxX.out.lt; omega
  have HRdY := Lib.hid (hrl.grow hal)
  replace HBxA := Lib.hid (HBxA.out.grow hbb)
  replace HBxX := Lib.hid (HBxX.out.grow hbb)
  replace HRdA := Lib.hid (HRdA.out.grow hbb)
  replace HRdX := Lib.hid (HRdX.out.grow hbb)
  replace HBel := Lib.hid (HBel.out.trans (hbb.mono HBel.out.size))
  clear pA0 pA1 pA2 pA3 pX0 pX1 pX2 pX3
  obtain ⟨wY, hwY⟩ : ∃ x, waY.alloc (.cells #[.slice (some ⟨bY, oY, none⟩) 4 cY, .slice AY 0 dY] 41) = x := ⟨_, rfl⟩
  change BoxAt (waY.alloc (.cells #[.slice (some ⟨bY, oY, none⟩) 4 cY, .slice AY 0 dY] 41)) _ _ _ at hX
  rw [hwY] at hX HRdY HBel HBxA HBxX HRdA HRdX 
  have HBxY := Lib.hid hX
  clear hal hX hbb hr hb hrl
  obtain ⟨pA0, pA1, pA2, pA3⟩ := HBxA.out.two
  obtain ⟨pX0, pX1, pX2, pX3⟩ := HBxX.out.two
  obtain ⟨pY0, pY1, pY2, pY3⟩ := HBxY.out.two
  go_wp2_with fail
  clear hwY
  refine (harm_Gone a d _ _ _ HRdA.out HSN.out.1 HSN.out.2).mono ?_
  rintro e waG ⟨vG, rfl, hr, hb⟩
  obtain ⟨bG, oG, cG, AG, dG, rfl, _, _, hcG, hmG⟩ := RdA_open hr HSG.out.1
  rw [show (goneA a d).1.ints.length = 0 by rw [HSG.out.2]; rfl] at hr ⊢
  have ord0G : w.heap.size ≤ waG.heap.size := Nat.le_trans HBel.out.size hb.size
  have ordAG : waA.heap.size < waG.heap.size := Nat.lt_of_lt_of_le HBxA.out.lt hb.size
  have ordXG : waX.heap.size < waG.heap.size := Nat.lt_of_lt_of_le HBxX.out.lt hb.size
  have ordYG : waY.heap.size < waG.heap.size := Nat.lt_of_lt_of_le HBxY.out.lt hb.size
  have hal := below_alloc waG (.cells #[.slice (some ⟨bG, oG, none⟩) 4 cG, .slice AG 0 dG] 41)
  have hX := boxAt_new waG 41 [.slice (some ⟨bG, oG, none⟩) 4 cG, .slice AG 0 dG]
  have hbb := hb.trans (hal.mono hb.size)
  have hrl := hr.lt.mono (F' := fun k => waY.heap.size < k ∧ k < waG.heap.size) fun k hk => by have := HBel.out.size; have := HBxA.out.lt; have := HBxX.out.lt; have := HBxY.out.lt; omega
  have HRdG := Lib.hid (hrl.grow hal)
  replace HBxA := Lib.hid (HBxA.out.grow hbb)
  replace HBxX := Lib.hid (HBxX.out.grow hbb)
  replace HBxY := Lib.hid (HBxY.out.grow hbb)
  replace HRdA := Lib.hid (HRdA.out.grow hbb)
  replace HRdX := Lib.hid (HRdX.out.grow hbb)
  replace HRdY := Lib.hid (HRdY.out.grow hbb)
  replace HBel := Lib.hid (HBel.out.trans (hbb.mono HBel.out.size))
  clear pA0 pA1 pA2 pA3 pX0 pX1 pX2 pX3 pY0 pY1 pY2 pY3
  obtain ⟨wG, hwG⟩ : ∃ x, waG.alloc (.cells #[.slice (some ⟨bG, oG, none⟩) 4 cG, .slice AG 0 dG] 41) = x := ⟨_, rfl⟩
  change BoxAt (waG.alloc (.cells #[.slice (some ⟨bG, oG, none⟩) 4 cG, .slice AG 0 dG] 41)) _ _ _ at hX
  rw [hwG] at hX HRdG HBel HBxA HBxX HBxY HRdA HRdX HRdY 
  have HBxG := Lib.hid hX
  clear hal hX hbb hr hb hrl
  obtain ⟨pA0, pA1, pA2, pA3⟩ := HBxA.out.two
  obtain ⟨pX0, pX1, pX2, pX3⟩ := HBxX.out.two
  obtain ⟨pY0, pY1, pY2, pY3⟩ := HBxY.out.two
  obtain ⟨pG0, pG1, pG2, pG3⟩ := HBxG.out.two
  generalize hg : goneA a d = gg at *
  go_wp2_with fail
  clear hwG
  refine (harm_Gone gg.1 d _ _ _ HRdG.out HSG.out.1 HSG.out.2).mono ?_
  rintro e waH ⟨vH, rfl, hr, hb⟩
  rw [HBk.out.2.2] at hr ⊢
  obtain ⟨bH, oH, cH, AH, dH, rfl, _, _, hcH, hmH⟩ := RdA_open hr HSG.out.1
  rw [show gg.1.ints.length = 0 by rw [HSG.out.2]; rfl] at hr ⊢
  have ord0H : w.heap.size ≤ waH.heap.size := Nat.le_trans HBel.out.size hb.size
  have ordAH : waA.heap.size < waH.heap.size := Nat.lt_of_lt_of_le HBxA.out.lt hb.size
  have ordXH : waX.heap.size < waH.heap.size := Nat.lt_of_lt_of_le HBxX.out.lt hb.size
  have ordYH : waY.heap.size < waH.heap.size := Nat.lt_of_lt_of_le HBxY.out.lt hb.size
  have ordGH : waG.heap.size < waH.heap.size := Nat.lt_of_lt_of_le HBxG.out.lt hb.size
  have hal := below_alloc waH (.cells #[.slice (some ⟨bH, oH, none⟩) 4 cH, .slice AH 0 dH] 41)
  have hX := boxAt_new waH 41 [.slice (some ⟨bH, oH, none⟩) 4 cH, .slice AH 0 dH]
  have hbb := hb.trans (hal.mono hb.size)
  have hrl := hr.lt.mono (F' := fun k => waG.heap.size < k ∧ k < waH.heap.size) fun k hk => by have := HBel.out.size; have := HBxA.out.lt; have := HBxX.out.lt; have := HBxY.out.lt; have := HBxG.out.lt; omega
  have HRdH := Lib.hid (hrl.grow hal)
  replace HBxA := Lib.hid (HBxA.out.grow hbb)
  replace HBxX := Lib.hid (HBxX.out.grow hbb)
  replace HBxY := Lib.hid (HBxY.out.grow hbb)
  replace HBxG := Lib.hid (HBxG.out.grow hbb)
  replace HRdA := Lib.hid (HRdA.out.grow hbb)
  replace HRdX := Lib.hid (HRdX.out.grow hbb)
  replace HRdY := Lib.hid (HRdY.out.grow hbb)
  replace HRdG := Lib.hid (HRdG.out.grow hbb)
  replace HBel := Lib.hid (HBel.out.trans (hbb.mono HBel.out.size))
  clear pA0 pA1 pA2 pA3 pX0 pX1 pX2 pX3 pY0 pY1 pY2 pY3 pG0 pG1 pG2 pG3
  obtain ⟨wH, hwH⟩ : ∃ x, waH.alloc (.cells #[.slice (some ⟨bH, oH, none⟩) 4 cH, .slice AH 0 dH] 41) = x := ⟨_, rfl⟩
  change BoxAt (waH.alloc (.cells #[.slice (some ⟨bH, oH, none⟩) 4 cH, .slice AH 0 dH] 41)) _ _ _ at hX
  rw [hwH] at hX HRdH HBel HBxA HBxX HBxY HBxG HRdA HRdX HRdY HRdG 
  have HBxH := Lib.hid hX
  clear hal hX hbb hr hb hrl
  obtain ⟨pA0, pA1, pA2, pA3⟩ := HBxA.out.two
  obtain ⟨pX0, pX1, pX2, pX3⟩ := HBxX.out.two
  obtain ⟨pY0, pY1, pY2, pY3⟩ := HBxY.out.two
  obtain ⟨pG0, pG1, pG2, pG3⟩ := HBxG.out.two
  obtain ⟨pH0, pH1, pH2, pH3⟩ := HBxH.out.two
  go_wp2_with fail
  clear hwH
  refine (ref_Same _ _ _ _ _ _ _ HRdY.out HRdA.out HSN.out.1 HSN.out.1 HSN.out.2 HSN.out.2).mono ?_
  rintro e wq1 ⟨rfl, hb⟩
  rw [beq_self_eq_true]
  replace HBxA := Lib.hid (HBxA.out.grow hb)
  replace HBxX := Lib.hid (HBxX.out.grow hb)
  replace HBxY := Lib.hid (HBxY.out.grow hb)
  replace HBxG := Lib.hid (HBxG.out.grow hb)
  replace HBxH := Lib.hid (HBxH.out.grow hb)
  replace HRdA := Lib.hid (HRdA.out.grow hb)
  replace HRdX := Lib.hid (HRdX.out.grow hb)
  replace HRdY := Lib.hid (HRdY.out.grow hb)
  replace HRdG := Lib.hid (HRdG.out.grow hb)
  replace HRdH := Lib.hid (HRdH.out.grow hb)
  replace HBel := Lib.hid (HBel.out.trans (hb.mono HBel.out.size))
  clear pA0 pA1 pA2 pA3 pX0 pX1 pX2 pX3 pY0 pY1 pY2 pY3 pG0 pG1 pG2 pG3 pH0 pH1 pH2 pH3
  clear hb
  obtain ⟨pA0, pA1, pA2, pA3⟩ := HBxA.out.two
  obtain ⟨pX0, pX1, pX2, pX3⟩ := HBxX.out.two
  obtain ⟨pY0, pY1, pY2, pY3⟩ := HBxY.out.two
  obtain ⟨pG0, pG1, pG2, pG3⟩ := HBxG.out.two
  obtain ⟨pH0, pH1, pH2, pH3⟩ := HBxH.out.two
  by_cases he : xe = 0
  · have hne : (x.disks == a.disks) = false := by
      simp only [beq_eq_false_iff_ne, ne_eq]
      intro h
      refine HBk.out.2.1 he ?_
      have h2 := HSX.out.2
      have h3 := HSN.out.2
      cases x
      cases a
      simp only at h h2 h3
      rw [h, h2, h3]
    have HNE := Lib.hid hne
    subst he
    clear hne hx hxe hg
    go_wp2_with fail
    refine (ref_Same _ _ _ _ _ _ _ HRdX.out HRdA.out HSX.out.1 HSN.out.1 HSX.out.2 HSN.out.2).mono ?_
    rintro e wq2 ⟨rfl, hb⟩
    rw [HNE.out]
    replace HBxA := Lib.hid (HBxA.out.grow hb)
    replace HBxX := Lib.hid (HBxX.out.grow hb)
    replace HBxY := Lib.hid (HBxY.out.grow hb)
    replace HBxG := Lib.hid (HBxG.out.grow hb)
    replace HBxH := Lib.hid (HBxH.out.grow hb)
    replace HRdA := Lib.hid (HRdA.out.grow hb)
    replace HRdX := Lib.hid (HRdX.out.grow hb)
    replace HRdY := Lib.hid (HRdY.out.grow hb)
    replace HRdG := Lib.hid (HRdG.out.grow hb)
    replace HRdH := Lib.hid (HRdH.out.grow hb)
    replace HBel := Lib.hid (HBel.out.trans (hb.mono HBel.out.size))
    clear pA0 pA1 pA2 pA3 pX0 pX1 pX2 pX3 pY0 pY1 pY2 pY3 pG0 pG1 pG2 pG3 pH0 pH1 pH2 pH3
    clear hb
    obtain ⟨pA0, pA1, pA2, pA3⟩ := HBxA.out.two
    obtain ⟨pX0, pX1, pX2, pX3⟩ := HBxX.out.two
    obtain ⟨pY0, pY1, pY2, pY3⟩ := HBxY.out.two
    obtain ⟨pG0, pG1, pG2, pG3⟩ := HBxG.out.two
    obtain ⟨pH0, pH1, pH2, pH3⟩ := HBxH.out.two
    go_wp2_with fail
    refine (ref_Same _ _ _ _ _ _ _ HRdG.out HRdH.out HSG.out.1 HSG.out.1 HSG.out.2 HSG.out.2).mono ?_
    rintro e wq3 ⟨rfl, hb⟩
    rw [beq_self_eq_true]
    replace HBxA := Lib.hid (HBxA.out.grow hb)
    replace HBxX := Lib.hid (HBxX.out.grow hb)
    replace HBxY := Lib.hid (HBxY.out.grow hb)
    replace HBxG := Lib.hid (HBxG.out.grow hb)
    replace HBxH := Lib.hid (HBxH.out.grow hb)
    replace HRdA := Lib.hid (HRdA.out.grow hb)
    replace HRdX := Lib.hid (HRdX.out.grow hb)
    replace HRdY := Lib.hid (HRdY.out.grow hb)
    replace HRdG := Lib.hid (HRdG.out.grow hb)
    replace HRdH := Lib.hid (HRdH.out.grow hb)
    replace HBel := Lib.hid (HBel.out.trans (hb.mono HBel.out.size))
    clear pA0 pA1 pA2 pA3 pX0 pX1 pX2 pX3 pY0 pY1 pY2 pY3 pG0 pG1 pG2 pG3 pH0 pH1 pH2 pH3
    clear hb
    obtain ⟨pA0, pA1, pA2, pA3⟩ := HBxA.out.two
    obtain ⟨pX0, pX1, pX2, pX3⟩ := HBxX.out.two
    obtain ⟨pY0, pY1, pY2, pY3⟩ := HBxY.out.two
    obtain ⟨pG0, pG1, pG2, pG3⟩ := HBxG.out.two
    obtain ⟨pH0, pH1, pH2, pH3⟩ := HBxH.out.two
    go_wp2
    go_ret
    exact ⟨rfl, HBel.out⟩
  · have hne : (xe != 0) = true := by simpa using he
    clear he hx hxe hg
    go_wp2_with fail
    refine (ref_Same _ _ _ _ _ _ _ HRdG.out HRdH.out HSG.out.1 HSG.out.1 HSG.out.2 HSG.out.2).mono ?_
    rintro e wq4 ⟨rfl, hb⟩
    rw [beq_self_eq_true]
    replace HBxA := Lib.hid (HBxA.out.grow hb)
    replace HBxX := Lib.hid (HBxX.out.grow hb)
    replace HBxY := Lib.hid (HBxY.out.grow hb)
    replace HBxG := Lib.hid (HBxG.out.grow hb)
    replace HBxH := Lib.hid (HBxH.out.grow hb)
    replace HRdA := Lib.hid (HRdA.out.grow hb)
    replace HRdX := Lib.hid (HRdX.out.grow hb)
    replace HRdY := Lib.hid (HRdY.out.grow hb)
    replace HRdG := Lib.hid (HRdG.out.grow hb)
    replace HRdH := Lib.hid (HRdH.out.grow hb)
    replace HBel := Lib.hid (HBel.out.trans (hb.mono HBel.out.size))
    clear pA0 pA1 pA2 pA3 pX0 pX1 pX2 pX3 pY0 pY1 pY2 pY3 pG0 pG1 pG2 pG3 pH0 pH1 pH2 pH3
    clear hb
    obtain ⟨pA0, pA1, pA2, pA3⟩ := HBxA.out.two
    obtain ⟨pX0, pX1, pX2, pX3⟩ := HBxX.out.two
    obtain ⟨pY0, pY1, pY2, pY3⟩ := HBxY.out.two
    obtain ⟨pG0, pG1, pG2, pG3⟩ := HBxG.out.two
    obtain ⟨pH0, pH1, pH2, pH3⟩ := HBxH.out.two
    go_wp2
    go_ret
    exact ⟨rfl, HBel.out⟩
namespace harmBackDone
open Go.ChangeShapes Go.WideShapes Go.ChangeAt Go.RowKit M
open Go.ChangeMaps (open_string shut_string)
set_option linter.unusedVariables false
set_option maxRecDepth 100000 in
theorem lifted (os : Os) (started : os.Started) (H : Type) (enc : TypeId × Value → H) :
    ReturnsInHanded {} Try.checked os 10 .any (Rows.harmBackSpec.pre6 enc Try.prog Try.f10 Rows.harmBackRow.domain false) (Rows.harmBackSpec.post enc Try.prog Try.f10 false true false false) := by
  refine returnsInHanded_of_change (C := Try.checked) own started (by kernel_rfl) Try.func10
    (ChangeSpec.witness6 (enc := enc) (C := Try.checked) false ⟨#[], #[.slice none 0 0, .int .i64 0, .int .i64 0, .int .i64 0], []⟩ 8 (by kernel_rfl) (by kernel_rfl) (by kernel_rfl) (by kernel_rfl)) ?_
  intro W base args ds gs before hval0 hW hcnd _
  have hval : ∀ (j : Nat) t v, Try.f10.params[j]? = some t → args[j]? = some v → Value.okWide Try.prog W .any base t v := hval0
  have hW' := hW
  obtain ⟨p, q, hA0, hV, rfl, hfz, hnd⟩ := hW
  have hA : DataW.TrodAll enc Try.prog W 0 (fun _ => true) true Try.f10.params.toList args.toList ds p := hA0
  rw [Try.params10] at hA hval
  obtain ⟨v0, vs0, d0, ds0, p0, q0, hargs, rfl, rfl, h0, r0⟩ := trodAll_cons hA
  obtain ⟨v1, vs1, d1, ds1, p1, q1, rfl, rfl, rfl, h1, r1⟩ := trodAll_cons r0
  obtain ⟨v2, vs2, d2, ds2, p2, q2, rfl, rfl, rfl, h2, r2⟩ := trodAll_cons r1
  obtain ⟨v3, vs3, d3, ds3, p3, q3, rfl, rfl, rfl, h3, r3⟩ := trodAll_cons r2
  obtain ⟨rfl, rfl, rfl⟩ := trodAll_nil r3
  obtain rfl : args = #[v0, v1, v2, v3] := by cases args; simp_all
  obtain ⟨rfl, rfl⟩ := trodVars_none hV
  obtain ⟨a0, len0, cap0, rfl⟩ := okWide_slice Try.underlying37 (hval 0 37 v0 rfl rfl)
  have k0 := h0
  have lt0 : ∀ x ∈ p0, x.block < W.heap.size := by obtain ⟨m, hm⟩ := k0; exact DataW.trod_lt m _ _ _ hm
  obtain ⟨fuel0, hf0⟩ := h0
  obtain ⟨b0, w0, l0⟩ := open_steps hf0
  obtain ⟨a1, rfl, rfl, rfl, w1⟩ := open_int Try.underlying3 (hval 1 3 v1 rfl rfl) h1
  have b1 := bounds_i64 w1
  obtain ⟨a2, rfl, rfl, rfl, w2⟩ := open_int Try.underlying3 (hval 2 3 v2 rfl rfl) h2
  have b2 := bounds_i64 w2
  obtain ⟨a3, rfl, rfl, rfl, w3⟩ := open_int Try.underlying3 (hval 3 3 v3 rfl rfl) h3
  have b3 := bounds_i64 w3
  clear hA0 hval0
  refine (harmBack_walk b0 _ a1 a2 a3 W w0 b1.1 b1.2 b2.1 b2.2 b3.1 b3.2).mono fun e W' ⟨he, bel⟩ => ?_
  subst he
  exact ⟨_, rfl, _, _, _, [], _, [], hW', trodAll_mk1 (shut_bool Try.underlying4 _), (trodAll_cons_mk (Below.trod laidOut (by kernel_rfl) (of_decide_eq_true (by kernel_rfl)) k0 bel lt0) (trodAll_cons_mk (shut_int Try.underlying3 w1) (trodAll_cons_mk (shut_int Try.underlying3 w2) (trodAll_cons_mk (shut_int Try.underlying3 w3) trodAll_mk0)))), rfl, bel.frame _, fun h => by cases h⟩
theorem over : Rows.harmBackRow.holds Try.pinned (OpenSpec.ofChange Rows.harmBackSpec) :=
  OpenClaim.holds_of_wide 10 Try.f10 rfl rfl rfl rfl rfl rfl rfl ⟨rfl, rfl, rfl, rfl, rfl⟩ rfl rfl rfl rfl rfl (by kernel_rfl) Try.func10 (by kernel_rfl)
    (of_decide_eq_true (by kernel_rfl)) (by unfold Func.isWrapper; first | (rw [if_pos (by decide +kernel)]; kernel_rfl) | (rw [if_neg (by decide +kernel)]; exact ⟨rfl, rfl⟩))
    (fun os started H enc _ => lifted os started H enc)
/-- The statement. -/
theorem proved : Rows.HarmBackSaid := over
end harmBackDone
end Go.Proofs.Ytlbnkoahkfhimaa

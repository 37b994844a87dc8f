/- Chapter 10: HarmOne holds for every input: the call returns true, and each argument reads behind it as it read before. -/
import Derived.Test.YtlbnkoahkfhimaaOpen3
import Derived.Test.YtlbnkoahkfhimaaC11
import Derived.Test.YtlbnkoahkfhimaaC9f
import Derived.Test.YtlbnkoahkfhimaaC9g
import Derived.Test.YtlbnkoahkfhimaaL10
namespace Go.Proofs.Ytlbnkoahkfhimaa
set_option linter.unusedVariables false
open Go Go.RowKit M
theorem rot_err {a : Arr} {d s n : Int} (h : (rotA a d s n).2 ≠ 0) : (rotA a d s n).1 = a := by
  rcases rot_cases a d s n with e | ⟨_, _, _, _, _, _, _, _, _, e⟩
  · rw [e]
  · rw [e] at h; exact absurd rfl h
theorem gone_err {a : Arr} {d : Int} (h : (goneA a d).2 ≠ 0) : (goneA a d).1 = a := by
  rcases gone_cases a d with e | ⟨_, _, _, e⟩
  · rw [e]
  · rw [e] at h; exact absurd rfl h
set_option maxRecDepth 100000 in
set_option maxHeartbeats 3200000 in
theorem harmOne_walk (l : List Step) (vl : Value) (d s n : Int) (gone : Bool) (w : World) (hl : RdSts w (fun _ => True) vl l) (_ : -9223372036854775808 ≤ d) (_ : d ≤ 9223372036854775807) (_ : -9223372036854775808 ≤ s) (_ : s ≤ 9223372036854775807) (_ : -9223372036854775808 ≤ n) (_ : n ≤ 9223372036854775807) :
    Calls Try.prog 11 #[vl, .int .i64 d, .int .i64 s, .int .i64 n, .bool gone] w fun e w' => e = .returned (.bool true) ∧ Below w.heap.size w w' := by
  obtain ⟨Ast, cst, rfl, _, _⟩ := id hl
  have HL0 := Lib.hid hl
  have HBel := Lib.hid (Below.refl w.heap.size w)
  clear hl
  go_enter Try.func11, Try.ntmps11
  go_wp2_with fail
  refine (law10_alive _).mono ?_
  rintro e w0 ⟨rfl, hb⟩
  replace HBel := Lib.hid (HBel.out.trans (hb.mono HBel.out.size))
  have HL := Lib.hid (HL0.out.below hb fun _ _ hk => hk)
  clear hb HL0
  go_wp2_with fail
  obtain ⟨Q, hgd, hcalm⟩ := good_gentlyA l
  refine (ref_PlayGently l _ _ _ HL.out).mono ?_
  rintro e waA ⟨vA, rfl, hr, hb⟩
  obtain ⟨bA, oA, cA, AA, dA, rfl, _, _, hcA, hmA⟩ := RdA_open hr hgd.shape
  rw [show (gentlyA l).ints.length = 0 by rw [hgd.none_]; rfl] at hr ⊢
  have ord0A : w.heap.size ≤ waA.heap.size := Nat.le_trans HBel.out.size hb.size
  have hal := below_alloc waA (.cells #[.slice (some ⟨bA, oA, none⟩) 4 cA, .slice AA 0 dA] 41)
  have hX := boxAt_new waA 41 [.slice (some ⟨bA, oA, none⟩) 4 cA, .slice AA 0 dA]
  have hbb := hb.trans (hal.mono hb.size)
  have hrl := hr.lt.mono (F' := fun k => w.heap.size ≤ k ∧ k < waA.heap.size) fun k hk => by have := HBel.out.size;  omega
  have HRdA := Lib.hid (hrl.grow hal)
  replace HBel := Lib.hid (HBel.out.trans (hbb.mono HBel.out.size))
  obtain ⟨wA, hwA⟩ : ∃ x, waA.alloc (.cells #[.slice (some ⟨bA, oA, none⟩) 4 cA, .slice AA 0 dA] 41) = x := ⟨_, rfl⟩
  change BoxAt (waA.alloc (.cells #[.slice (some ⟨bA, oA, none⟩) 4 cA, .slice AA 0 dA] 41)) _ _ _ at hX
  rw [hwA] at hX HRdA HBel   
  have HBxA := Lib.hid hX
  clear hal hX hbb hr hb hrl
  obtain ⟨pA0, pA1, pA2, pA3⟩ := HBxA.out.two
  go_wp2_with fail
  clear hwA
  generalize gentlyA l = a at *
  have HSN := Lib.hid (And.intro hgd.shape hgd.none_)
  have HGD := Lib.hid (And.intro hgd hcalm)
  clear hgd hcalm
  refine (ref_Worst a _ _ _ HRdA.out HSN.out.1).mono ?_
  rintro e wq1 ⟨rfl, hb⟩
  replace HBxA := Lib.hid (HBxA.out.grow hb)
  replace HRdA := Lib.hid (HRdA.out.grow hb)
  replace HBel := Lib.hid (HBel.out.trans (hb.mono HBel.out.size))
  clear pA0 pA1 pA2 pA3
  clear hb
  obtain ⟨pA0, pA1, pA2, pA3⟩ := HBxA.out.two
  by_cases hw0 : worstA a.disks = 0
  rotate_left
  · have hd : decide ((0 : Int) < ((worstA a.disks : Nat) : Int)) = true := by simp; omega
    clear hw0
    generalize ((worstA a.disks : Nat) : Int) = ww at *
    go_wp2
    go_ret
    exact ⟨rfl, HBel.out⟩
  have HSX := Lib.hid (And.intro (rot_shape HSN.out.1 d s n) (rot_ints' HSN.out.2 d s n))
  have HSG := Lib.hid (And.intro (gone_shape' HSN.out.1 d) (gone_ints' HSN.out.2 d))
  have HEX := Lib.hid (And.intro (@rot_err a d s n) (@one_rot a Q HGD.out.1 hw0 d s n))
  have HEG := Lib.hid (And.intro (@gone_err a d) (@one_gone a Q HGD.out.1 hw0 d))
  have HW0 := Lib.hid hw0
  rw [hw0]
  clear hw0
  go_wp2_with fail
  refine (harm_Rot a d s n _ _ _ HRdA.out HSN.out.1 HSN.out.2).mono ?_
  rintro e waX ⟨vX, rfl, hr, hb⟩
  obtain ⟨bX, oX, cX, AX, dX, rfl, _, _, hcX, hmX⟩ := RdA_open hr HSX.out.1
  rw [show (rotA a d s n).1.ints.length = 0 by rw [HSX.out.2]; rfl] at hr ⊢
  have ord0X : w.heap.size ≤ waX.heap.size := Nat.le_trans HBel.out.size hb.size
  have ordAX : waA.heap.size < waX.heap.size := Nat.lt_of_lt_of_le HBxA.out.lt hb.size
  have hal := below_alloc waX (.cells #[.slice (some ⟨bX, oX, none⟩) 4 cX, .slice AX 0 dX] 41)
  have hX := boxAt_new waX 41 [.slice (some ⟨bX, oX, none⟩) 4 cX, .slice AX 0 dX]
  have hbb := hb.trans (hal.mono hb.size)
  have hrl := hr.lt.mono (F' := fun k => waA.heap.size < k ∧ k < waX.heap.size) fun k hk => by have := HBel.out.size; have := HBxA.out.lt; omega
  have HRdX := Lib.hid (hrl.grow hal)
  replace HBxA := Lib.hid (HBxA.out.grow hbb)
  replace HRdA := Lib.hid (HRdA.out.grow hbb)
  replace HBel := Lib.hid (HBel.out.trans (hbb.mono HBel.out.size))
  clear pA0 pA1 pA2 pA3
  obtain ⟨wX, hwX⟩ : ∃ x, waX.alloc (.cells #[.slice (some ⟨bX, oX, none⟩) 4 cX, .slice AX 0 dX] 41) = x := ⟨_, rfl⟩
  change BoxAt (waX.alloc (.cells #[.slice (some ⟨bX, oX, none⟩) 4 cX, .slice AX 0 dX] 41)) _ _ _ at hX
  rw [hwX] at hX HRdX HBel HBxA HRdA 
  have HBxX := Lib.hid hX
  clear hal hX hbb hr hb hrl
  obtain ⟨pA0, pA1, pA2, pA3⟩ := HBxA.out.two
  obtain ⟨pX0, pX1, pX2, pX3⟩ := HBxX.out.two
  generalize (rotA a d s n).1 = x at *
  generalize (rotA a d s n).2 = xe at *
  cases gone
  · skip
    by_cases he : xe = 0
    rotate_left
    · have hne : (xe != 0) = true := by simpa using he
      have hxa := HEX.out.1 he
      subst hxa
      clear he
      go_wp2_with fail
      clear hwX
      refine (ref_Same _ _ _ _ _ _ _ HRdX.out HRdA.out HSX.out.1 HSX.out.1 HSX.out.2 HSX.out.2).mono ?_
      rintro e wq2 ⟨rfl, hb⟩
      rw [beq_self_eq_true]
      replace HBxA := Lib.hid (HBxA.out.grow hb)
      replace HBxX := Lib.hid (HBxX.out.grow hb)
      replace HRdA := Lib.hid (HRdA.out.grow hb)
      replace HRdX := Lib.hid (HRdX.out.grow hb)
      replace HBel := Lib.hid (HBel.out.trans (hb.mono HBel.out.size))
      clear pA0 pA1 pA2 pA3 pX0 pX1 pX2 pX3
      clear hb
      obtain ⟨pA0, pA1, pA2, pA3⟩ := HBxA.out.two
      obtain ⟨pX0, pX1, pX2, pX3⟩ := HBxX.out.two
      go_wp2
      go_ret
      exact ⟨rfl, HBel.out⟩
    obtain ⟨hgx, hwx⟩ := HEX.out.2 he
    have HBA := Lib.hid (good_blocks HGD.out.1 HGD.out.2)
    have HBX := Lib.hid (good_blocks hgx (calm_iff.1 (by rw [hwx]; exact Nat.le_refl _)))
    have HWX := Lib.hid hwx
    subst he
    clear hgx hwx
    go_wp2_with fail
    clear hwX
    refine (ref_Blocks a _ _ _ HRdA.out HSN.out.1).mono ?_
    rintro e wb1 ⟨vb1, rfl, hrb, hb⟩
    rw [HBA.out] at hrb ⊢
    obtain ⟨Ab1, cb1, rfl, _, _⟩ := hrb.shape
    replace HBxA := Lib.hid (HBxA.out.grow hb)
    replace HBxX := Lib.hid (HBxX.out.grow hb)
    replace HRdA := Lib.hid (HRdA.out.grow hb)
    replace HRdX := Lib.hid (HRdX.out.grow hb)
    replace HBel := Lib.hid (HBel.out.trans (hb.mono HBel.out.size))
    clear pA0 pA1 pA2 pA3 pX0 pX1 pX2 pX3
    have HV1 := Lib.hid (okBB.mono hrb (F' := fun _ => True) fun _ _ => trivial)
    rw [blocksQ_len] at HV1 ⊢
    clear hrb hb
    obtain ⟨pA0, pA1, pA2, pA3⟩ := HBxA.out.two
    obtain ⟨pX0, pX1, pX2, pX3⟩ := HBxX.out.two
    go_wp2_with fail
    refine (ref_Blocks x _ _ _ HRdX.out HSX.out.1).mono ?_
    rintro e wb2 ⟨vb2, rfl, hrb, hb⟩
    rw [HBX.out] at hrb ⊢
    obtain ⟨Ab2, cb2, rfl, _, _⟩ := hrb.shape
    replace HBxA := Lib.hid (HBxA.out.grow hb)
    replace HBxX := Lib.hid (HBxX.out.grow hb)
    replace HRdA := Lib.hid (HRdA.out.grow hb)
    replace HRdX := Lib.hid (HRdX.out.grow hb)
    replace HBel := Lib.hid (HBel.out.trans (hb.mono HBel.out.size))
    replace HV1 := Lib.hid (okBB.grow HV1.out hb)
    clear pA0 pA1 pA2 pA3 pX0 pX1 pX2 pX3
    have HV2 := Lib.hid (okBB.mono hrb (F' := fun _ => True) fun _ _ => trivial)
    rw [blocksQ_len] at HV2 ⊢
    clear hrb hb
    obtain ⟨pA0, pA1, pA2, pA3⟩ := HBxA.out.two
    obtain ⟨pX0, pX1, pX2, pX3⟩ := HBxX.out.two
    go_wp2_with fail
    refine (ref_SameBytes _ _ _ _ _ _ HV1.out HV2.out).mono ?_
    rintro e wq3 ⟨rfl, hb⟩
    rw [beq_self_eq_true]
    replace HBxA := Lib.hid (HBxA.out.grow hb)
    replace HBxX := Lib.hid (HBxX.out.grow hb)
    replace HRdA := Lib.hid (HRdA.out.grow hb)
    replace HRdX := Lib.hid (HRdX.out.grow hb)
    replace HBel := Lib.hid (HBel.out.trans (hb.mono HBel.out.size))
    replace HV1 := Lib.hid (okBB.grow HV1.out hb)
    replace HV2 := Lib.hid (okBB.grow HV2.out hb)
    clear pA0 pA1 pA2 pA3 pX0 pX1 pX2 pX3
    clear hb
    obtain ⟨pA0, pA1, pA2, pA3⟩ := HBxA.out.two
    obtain ⟨pX0, pX1, pX2, pX3⟩ := HBxX.out.two
    go_wp2_with fail
    refine (ref_Worst x _ _ _ HRdX.out HSX.out.1).mono ?_
    rintro e wq4 ⟨rfl, hb⟩
    rw [HWX.out]
    replace HBxA := Lib.hid (HBxA.out.grow hb)
    replace HBxX := Lib.hid (HBxX.out.grow hb)
    replace HRdA := Lib.hid (HRdA.out.grow hb)
    replace HRdX := Lib.hid (HRdX.out.grow hb)
    replace HBel := Lib.hid (HBel.out.trans (hb.mono HBel.out.size))
    replace HV1 := Lib.hid (okBB.grow HV1.out hb)
    replace HV2 := Lib.hid (okBB.grow HV2.out hb)
    clear pA0 pA1 pA2 pA3 pX0 pX1 pX2 pX3
    clear hb
    obtain ⟨pA0, pA1, pA2, pA3⟩ := HBxA.out.two
    obtain ⟨pX0, pX1, pX2, pX3⟩ := HBxX.out.two
    go_wp2
    go_ret
    exact ⟨rfl, HBel.out⟩
  · go_wp2_with fail
    clear hwX
    refine (harm_Gone a d _ _ _ HRdA.out HSN.out.1 HSN.out.2).mono ?_
    rintro e z5 ⟨v, rfl, hr, hb⟩
    obtain ⟨bz5, oz5, cz5, Az5, dz5, rfl, _, _, hcz5, hmz5⟩ := RdA_open hr HSG.out.1
    rw [show (goneA a d).1.ints.length = 0 by rw [HSG.out.2]; rfl] at hr ⊢
    have hsA := HBxA.out.lt
    have hsX := HBxX.out.lt
    have hrl := hr.lt
    replace HBxA := Lib.hid (HBxA.out.grow hb)
    replace HBxX := Lib.hid (HBxX.out.grow hb)
    replace HRdA := Lib.hid (HRdA.out.grow hb)
    replace HRdX := Lib.hid (HRdX.out.grow hb)
    replace HBel := Lib.hid (HBel.out.trans (hb.mono HBel.out.size))
    clear pA0 pA1 pA2 pA3 pX0 pX1 pX2 pX3
    obtain ⟨q0, q1, q2, q3⟩ := HBxX.out.two
    have g0 : BoxAt (set2 z5 waX.heap.size (.slice (some ⟨bz5, oz5, none⟩) 4 cz5) (.slice Az5 0 dz5)) _ _ _ := HBxX.out.put2
    have gA : BoxAt (set2 z5 waX.heap.size (.slice (some ⟨bz5, oz5, none⟩) 4 cz5) (.slice Az5 0 dz5)) _ _ _ := HBxA.out.far2 (by omega)
    have rA : RdA (set2 z5 waX.heap.size (.slice (some ⟨bz5, oz5, none⟩) 4 cz5) (.slice Az5 0 dz5)) _ _ _ := HRdA.out.set2 (b := waX.heap.size) (fun k hk => by omega)
    have rn : RdA (set2 z5 waX.heap.size (.slice (some ⟨bz5, oz5, none⟩) 4 cz5) (.slice Az5 0 dz5)) (fun k => waX.heap.size < k) _ _ := (hrl.mono (F' := fun k => waX.heap.size < k) fun k hk => by omega).set2 (b := waX.heap.size) (fun k hk => by omega)
    have gb := HBel.out.trans (below_set2 (w := z5) (b := waX.heap.size) (v0 := .slice (some ⟨bz5, oz5, none⟩) 4 cz5) (v1 := .slice Az5 0 dz5) (by omega))
    obtain ⟨wz5, hwz5⟩ : ∃ x, set2 z5 waX.heap.size (.slice (some ⟨bz5, oz5, none⟩) 4 cz5) (.slice Az5 0 dz5) = x := ⟨_, rfl⟩
    rw [hwz5] at g0 gA rA rn gb
    change (z5.setCell ⟨waX.heap.size, 0, none⟩ (.slice (some ⟨bz5, oz5, none⟩) 4 cz5)).setCell ⟨waX.heap.size, 1, none⟩ (.slice Az5 0 dz5) = wz5 at hwz5
    replace HBxX := Lib.hid g0
    replace HRdX := Lib.hid rn
    replace HBxA := Lib.hid gA
    replace HRdA := Lib.hid rA
    replace HBel := Lib.hid gb
    clear hr hrl hb g0 gA rA rn gb hsA hsX
    obtain ⟨pA0, pA1, pA2, pA3⟩ := HBxA.out.two
    obtain ⟨pX0, pX1, pX2, pX3⟩ := HBxX.out.two
    clear HEX HSX
    generalize (goneA a d).1 = x at *
    generalize (goneA a d).2 = xe at *
    have HEX := HEG
    have HSX := HSG
    clear HEG HSG
    by_cases he : xe = 0
    rotate_left
    · have hne : (xe != 0) = true := by simpa using he
      have hxa := HEX.out.1 he
      subst hxa
      clear he
      go_wp2_with fail
      clear hwz5 q0 q1 q2 q3
      refine (ref_Same _ _ _ _ _ _ _ HRdX.out HRdA.out HSX.out.1 HSX.out.1 HSX.out.2 HSX.out.2).mono ?_
      rintro e wq6 ⟨rfl, hb⟩
      rw [beq_self_eq_true]
      replace HBxA := Lib.hid (HBxA.out.grow hb)
      replace HBxX := Lib.hid (HBxX.out.grow hb)
      replace HRdA := Lib.hid (HRdA.out.grow hb)
      replace HRdX := Lib.hid (HRdX.out.grow hb)
      replace HBel := Lib.hid (HBel.out.trans (hb.mono HBel.out.size))
      clear pA0 pA1 pA2 pA3 pX0 pX1 pX2 pX3
      clear hb
      obtain ⟨pA0, pA1, pA2, pA3⟩ := HBxA.out.two
      obtain ⟨pX0, pX1, pX2, pX3⟩ := HBxX.out.two
      go_wp2
      go_ret
      exact ⟨rfl, HBel.out⟩
    obtain ⟨hgx, hwx⟩ := HEX.out.2 he
    have HBA := Lib.hid (good_blocks HGD.out.1 HGD.out.2)
    have HBX := Lib.hid (good_blocks hgx (calm_iff.1 (by rw [hwx]; exact Nat.le_refl _)))
    have HWX := Lib.hid hwx
    subst he
    clear hgx hwx
    go_wp2_with fail
    clear hwz5 q0 q1 q2 q3
    refine (ref_Blocks a _ _ _ HRdA.out HSN.out.1).mono ?_
    rintro e wb1 ⟨vb1, rfl, hrb, hb⟩
    rw [HBA.out] at hrb ⊢
    obtain ⟨Ab1, cb1, rfl, _, _⟩ := hrb.shape
    replace HBxA := Lib.hid (HBxA.out.grow hb)
    replace HBxX := Lib.hid (HBxX.out.grow hb)
    replace HRdA := Lib.hid (HRdA.out.grow hb)
    replace HRdX := Lib.hid (HRdX.out.grow hb)
    replace HBel := Lib.hid (HBel.out.trans (hb.mono HBel.out.size))
    clear pA0 pA1 pA2 pA3 pX0 pX1 pX2 pX3
    have HV1 := Lib.hid (okBB.mono hrb (F' := fun _ => True) fun _ _ => trivial)
    rw [blocksQ_len] at HV1 ⊢
    clear hrb hb
    obtain ⟨pA0, pA1, pA2, pA3⟩ := HBxA.out.two
    obtain ⟨pX0, pX1, pX2, pX3⟩ := HBxX.out.two
    go_wp2_with fail
    refine (ref_Blocks x _ _ _ HRdX.out HSX.out.1).mono ?_
    rintro e wb2 ⟨vb2, rfl, hrb, hb⟩
    rw [HBX.out] at hrb ⊢
    obtain ⟨Ab2, cb2, rfl, _, _⟩ := hrb.shape
    replace HBxA := Lib.hid (HBxA.out.grow hb)
    replace HBxX := Lib.hid (HBxX.out.grow hb)
    replace HRdA := Lib.hid (HRdA.out.grow hb)
    replace HRdX := Lib.hid (HRdX.out.grow hb)
    replace HBel := Lib.hid (HBel.out.trans (hb.mono HBel.out.size))
    replace HV1 := Lib.hid (okBB.grow HV1.out hb)
    clear pA0 pA1 pA2 pA3 pX0 pX1 pX2 pX3
    have HV2 := Lib.hid (okBB.mono hrb (F' := fun _ => True) fun _ _ => trivial)
    rw [blocksQ_len] at HV2 ⊢
    clear hrb hb
    obtain ⟨pA0, pA1, pA2, pA3⟩ := HBxA.out.two
    obtain ⟨pX0, pX1, pX2, pX3⟩ := HBxX.out.two
    go_wp2_with fail
    refine (ref_SameBytes _ _ _ _ _ _ HV1.out HV2.out).mono ?_
    rintro e wq7 ⟨rfl, hb⟩
    rw [beq_self_eq_true]
    replace HBxA := Lib.hid (HBxA.out.grow hb)
    replace HBxX := Lib.hid (HBxX.out.grow hb)
    replace HRdA := Lib.hid (HRdA.out.grow hb)
    replace HRdX := Lib.hid (HRdX.out.grow hb)
    replace HBel := Lib.hid (HBel.out.trans (hb.mono HBel.out.size))
    replace HV1 := Lib.hid (okBB.grow HV1.out hb)
    replace HV2 := Lib.hid (okBB.grow HV2.out hb)
    clear pA0 pA1 pA2 pA3 pX0 pX1 pX2 pX3
    clear hb
    obtain ⟨pA0, pA1, pA2, pA3⟩ := HBxA.out.two
    obtain ⟨pX0, pX1, pX2, pX3⟩ := HBxX.out.two
    go_wp2_with fail
    refine (ref_Worst x _ _ _ HRdX.out HSX.out.1).mono ?_
    rintro e wq8 ⟨rfl, hb⟩
    rw [HWX.out]
    replace HBxA := Lib.hid (HBxA.out.grow hb)
    replace HBxX := Lib.hid (HBxX.out.grow hb)
    replace HRdA := Lib.hid (HRdA.out.grow hb)
    replace HRdX := Lib.hid (HRdX.out.grow hb)
    replace HBel := Lib.hid (HBel.out.trans (hb.mono HBel.out.size))
    replace HV1 := Lib.hid (okBB.grow HV1.out hb)
    replace HV2 := Lib.hid (okBB.grow HV2.out hb)
    clear pA0 pA1 pA2 pA3 pX0 pX1 pX2 pX3
    clear hb
    obtain ⟨pA0, pA1, pA2, pA3⟩ := HBxA.out.two
    obtain ⟨pX0, pX1, pX2, pX3⟩ := HBxX.out.two
    go_wp2
    go_ret
    exact ⟨rfl, HBel.out⟩
namespace harmOneDone
open Go.ChangeShapes Go.WideShapes Go.ChangeAt Go.RowKit M
open Go.ChangeMaps (open_string shut_string)
set_option linter.unusedVariables false
set_option maxRecDepth 100000 in
theorem lifted (os : Os) (started : os.Started) (H : Type) (enc : TypeId × Value → H) :
    ReturnsInHanded {} Try.checked os 11 .any (Rows.harmOneSpec.pre6 enc Try.prog Try.f11 Rows.harmOneRow.domain false) (Rows.harmOneSpec.post enc Try.prog Try.f11 false true false false) := by
  refine returnsInHanded_of_change (C := Try.checked) own started (by kernel_rfl) Try.func11
    (ChangeSpec.witness6 (enc := enc) (C := Try.checked) false ⟨#[], #[.slice none 0 0, .int .i64 0, .int .i64 0, .int .i64 0, .bool false], []⟩ 8 (by kernel_rfl) (by kernel_rfl) (by kernel_rfl) (by kernel_rfl)) ?_
  intro W base args ds gs before hval0 hW hcnd _
  have hval : ∀ (j : Nat) t v, Try.f11.params[j]? = some t → args[j]? = some v → Value.okWide Try.prog W .any base t v := hval0
  have hW' := hW
  obtain ⟨p, q, hA0, hV, rfl, hfz, hnd⟩ := hW
  have hA : DataW.TrodAll enc Try.prog W 0 (fun _ => true) true Try.f11.params.toList args.toList ds p := hA0
  rw [Try.params11] at hA hval
  obtain ⟨v0, vs0, d0, ds0, p0, q0, hargs, rfl, rfl, h0, r0⟩ := trodAll_cons hA
  obtain ⟨v1, vs1, d1, ds1, p1, q1, rfl, rfl, rfl, h1, r1⟩ := trodAll_cons r0
  obtain ⟨v2, vs2, d2, ds2, p2, q2, rfl, rfl, rfl, h2, r2⟩ := trodAll_cons r1
  obtain ⟨v3, vs3, d3, ds3, p3, q3, rfl, rfl, rfl, h3, r3⟩ := trodAll_cons r2
  obtain ⟨v4, vs4, d4, ds4, p4, q4, rfl, rfl, rfl, h4, r4⟩ := trodAll_cons r3
  obtain ⟨rfl, rfl, rfl⟩ := trodAll_nil r4
  obtain rfl : args = #[v0, v1, v2, v3, v4] := by cases args; simp_all
  obtain ⟨rfl, rfl⟩ := trodVars_none hV
  obtain ⟨a0, len0, cap0, rfl⟩ := okWide_slice Try.underlying37 (hval 0 37 v0 rfl rfl)
  have k0 := h0
  have lt0 : ∀ x ∈ p0, x.block < W.heap.size := by obtain ⟨m, hm⟩ := k0; exact DataW.trod_lt m _ _ _ hm
  obtain ⟨fuel0, hf0⟩ := h0
  obtain ⟨b0, w0, l0⟩ := open_steps hf0
  obtain ⟨a1, rfl, rfl, rfl, w1⟩ := open_int Try.underlying3 (hval 1 3 v1 rfl rfl) h1
  have b1 := bounds_i64 w1
  obtain ⟨a2, rfl, rfl, rfl, w2⟩ := open_int Try.underlying3 (hval 2 3 v2 rfl rfl) h2
  have b2 := bounds_i64 w2
  obtain ⟨a3, rfl, rfl, rfl, w3⟩ := open_int Try.underlying3 (hval 3 3 v3 rfl rfl) h3
  have b3 := bounds_i64 w3
  obtain ⟨a4, rfl, rfl, rfl⟩ := open_bool Try.underlying4 (hval 4 4 v4 rfl rfl) h4
  clear hA0 hval0
  refine (harmOne_walk b0 _ a1 a2 a3 a4 W w0 b1.1 b1.2 b2.1 b2.2 b3.1 b3.2).mono fun e W' ⟨he, bel⟩ => ?_
  subst he
  exact ⟨_, rfl, _, _, _, [], _, [], hW', trodAll_mk1 (shut_bool Try.underlying4 _), (trodAll_cons_mk (Below.trod laidOut (by kernel_rfl) (of_decide_eq_true (by kernel_rfl)) k0 bel lt0) (trodAll_cons_mk (shut_int Try.underlying3 w1) (trodAll_cons_mk (shut_int Try.underlying3 w2) (trodAll_cons_mk (shut_int Try.underlying3 w3) (trodAll_cons_mk (shut_bool Try.underlying4 a4) trodAll_mk0))))), rfl, bel.frame _, fun h => by cases h⟩
theorem over : Rows.harmOneRow.holds Try.pinned (OpenSpec.ofChange Rows.harmOneSpec) :=
  OpenClaim.holds_of_wide 11 Try.f11 rfl rfl rfl rfl rfl rfl rfl ⟨rfl, rfl, rfl, rfl, rfl⟩ rfl rfl rfl rfl rfl (by kernel_rfl) Try.func11 (by kernel_rfl)
    (of_decide_eq_true (by kernel_rfl)) (by unfold Func.isWrapper; first | (rw [if_pos (by decide +kernel)]; kernel_rfl) | (rw [if_neg (by decide +kernel)]; exact ⟨rfl, rfl⟩))
    (fun os started H enc _ => lifted os started H enc)
/-- The statement. -/
theorem proved : Rows.HarmOneSaid := over
end harmOneDone
end Go.Proofs.Ytlbnkoahkfhimaa

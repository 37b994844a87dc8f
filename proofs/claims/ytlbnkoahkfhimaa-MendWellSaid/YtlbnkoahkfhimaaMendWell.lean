/- Chapter 9: MendWell holds for every input: the call returns true, and each argument reads behind it as it read before. -/
import Derived.Test.YtlbnkoahkfhimaaOpen3
import Derived.Test.YtlbnkoahkfhimaaC9f
import Derived.Test.YtlbnkoahkfhimaaL9
namespace Go.Proofs.Ytlbnkoahkfhimaa
set_option linter.unusedVariables false
open Go Go.RowKit M
set_option maxRecDepth 100000 in
set_option maxHeartbeats 3200000 in
theorem mendWell_walk (l : List Step) (vl : Value) (w : World) (hl : RdSts w (fun _ => True) vl l) :
    Calls Try.prog 13 #[vl] w fun e w' => e = .returned (.bool true) ∧ Below w.heap.size w w' := by
  obtain ⟨Ast, cst, rfl, _, _⟩ := id hl
  have HL0 := Lib.hid hl
  have HBel := Lib.hid (Below.refl w.heap.size w)
  clear hl
  go_enter Try.func13, Try.ntmps13
  go_wp2_with fail
  refine (law9_alive _).mono ?_
  rintro e w0 ⟨rfl, hb⟩
  replace HBel := Lib.hid (HBel.out.trans (hb.mono HBel.out.size))
  have HL := Lib.hid (HL0.out.below hb fun _ _ hk => hk)
  clear hb HL0
  go_wp2_with fail
  obtain ⟨Q, hgd, hcalm⟩ := good_gentlyA l
  refine (ref_PlayGently l _ _ _ HL.out).mono ?_
  rintro e waA ⟨vA, rfl, hr, hb⟩
  obtain ⟨bA, oA, cA, AA, dA, rfl, _, _, hcA, hmA⟩ := RdA_open hr hgd.shape
  rw [show (gentlyA l).ints.length = 0 by rw [hgd.none_]; rfl] at hr ⊢
  have ord0A : w.heap.size ≤ waA.heap.size := Nat.le_trans HBel.out.size hb.size
  have hal := below_alloc waA (.cells #[.slice (some ⟨bA, oA, none⟩) 4 cA, .slice AA 0 dA] 41)
  have hX := boxAt_new waA 41 [.slice (some ⟨bA, oA, none⟩) 4 cA, .slice AA 0 dA]
  have hbb := hb.trans (hal.mono hb.size)
  have hrl := hr.lt.mono (F' := fun k => w.heap.size ≤ k ∧ k < waA.heap.size) fun k hk => by have := HBel.out.size;  omega
  have HRdA := Lib.hid (hrl.grow hal)
  replace HBel := Lib.hid (HBel.out.trans (hbb.mono HBel.out.size))
  obtain ⟨wA, hwA⟩ : ∃ x, waA.alloc (.cells #[.slice (some ⟨bA, oA, none⟩) 4 cA, .slice AA 0 dA] 41) = x := ⟨_, rfl⟩
  change BoxAt (waA.alloc (.cells #[.slice (some ⟨bA, oA, none⟩) 4 cA, .slice AA 0 dA] 41)) _ _ _ at hX
  rw [hwA] at hX HRdA HBel   
  have HBxA := Lib.hid hX
  clear hal hX hbb hr hb hrl
  obtain ⟨pA0, pA1, pA2, pA3⟩ := HBxA.out.two
  go_wp2_with fail
  clear hwA
  generalize gentlyA l = a at *
  obtain ⟨hgx, hcx, hbx⟩ := good_mends hgd hcalm 3 (Nat.le_refl 3)
  obtain ⟨hwx, hnx⟩ := mends_well hgx hbx 3 (Nat.le_refl 3)
  have HA := Lib.hid (And.intro hgd hcalm)
  have HX := Lib.hid (And.intro hgx (And.intro hcx (And.intro hwx hnx)))
  have HW0 := Lib.hid (show worstA (mendsTo a 3).disks = 0 from Nat.le_zero.1 (worst_le.2 fun s hs => by rw [hbx s hs]; exact Nat.le_refl _))
  clear hgd hcalm hgx hcx hbx hwx hnx
  refine (mend_All a _ _ _ HRdA.out HA.out.1.shape HA.out.1.none_).mono ?_
  rintro e waX ⟨vX, uX, rfl, hr, hu, hb⟩
  obtain ⟨AnX, cnX, rfl, hcnX, hcnmX⟩ := hu.shape
  rw [mendNs_len] at hu hcnX ⊢
  obtain ⟨bX, oX, cX, AX, dX, rfl, _, _, hcX, hmX⟩ := RdA_open hr HX.out.1.shape
  rw [show (mendsTo a 3).ints.length = 0 by rw [HX.out.1.none_]; rfl] at hr ⊢
  have ord0X : w.heap.size ≤ waX.heap.size := Nat.le_trans HBel.out.size hb.size
  have ordAX : waA.heap.size < waX.heap.size := Nat.lt_of_lt_of_le HBxA.out.lt hb.size
  have hal := below_alloc waX (.cells #[.slice (some ⟨bX, oX, none⟩) 4 cX, .slice AX 0 dX] 41)
  have hX := boxAt_new waX 41 [.slice (some ⟨bX, oX, none⟩) 4 cX, .slice AX 0 dX]
  have hbb := hb.trans (hal.mono hb.size)
  have hrl := hr.lt.mono (F' := fun k => k < waA.heap.size ∨ waA.heap.size < k ∧ k < waX.heap.size) fun k hk => by have := HBel.out.size; have := HBxA.out.lt; omega
  have HRdX := Lib.hid (hrl.grow hal)
  replace HBxA := Lib.hid (HBxA.out.grow hbb)
  replace HRdA := Lib.hid (HRdA.out.grow hbb)
  replace HBel := Lib.hid (HBel.out.trans (hbb.mono HBel.out.size))
  clear pA0 pA1 pA2 pA3
  obtain ⟨wX, hwX⟩ : ∃ x, waX.alloc (.cells #[.slice (some ⟨bX, oX, none⟩) 4 cX, .slice AX 0 dX] 41) = x := ⟨_, rfl⟩
  change BoxAt (waX.alloc (.cells #[.slice (some ⟨bX, oX, none⟩) 4 cX, .slice AX 0 dX] 41)) _ _ _ at hX
  rw [hwX] at hX HRdX HBel HBxA HRdA 
  have HBxX := Lib.hid hX
  clear hal hX hbb hr hb hrl
  obtain ⟨pA0, pA1, pA2, pA3⟩ := HBxA.out.two
  obtain ⟨pX0, pX1, pX2, pX3⟩ := HBxX.out.two
  clear hu
  generalize hmx : mendsTo a 3 = x at *
  go_wp2_with fail
  clear hwX hmx
  refine (mend_All x _ _ _ HRdX.out HX.out.1.shape HX.out.1.none_).mono ?_
  rintro e waY ⟨vY, uY, rfl, hr, hu, hb⟩
  obtain ⟨AnY, cnY, rfl, hcnY, hcnmY⟩ := hu.shape
  rw [mendNs_len] at hu hcnY ⊢
  rw [HX.out.2.2.2] at hu
  rw [HX.out.2.2.1] at hr
  obtain ⟨bY, oY, cY, AY, dY, rfl, _, _, hcY, hmY⟩ := RdA_open hr HX.out.1.shape
  rw [show x.ints.length = 0 by rw [HX.out.1.none_]; rfl] at hr ⊢
  have ord0Y : w.heap.size ≤ waY.heap.size := Nat.le_trans HBel.out.size hb.size
  have ordAY : waA.heap.size < waY.heap.size := Nat.lt_of_lt_of_le HBxA.out.lt hb.size
  have ordXY : waX.heap.size < waY.heap.size := Nat.lt_of_lt_of_le HBxX.out.lt hb.size
  have hal := below_alloc waY (.cells #[.slice (some ⟨bY, oY, none⟩) 4 cY, .slice AY 0 dY] 41)
  have hX := boxAt_new waY 41 [.slice (some ⟨bY, oY, none⟩) 4 cY, .slice AY 0 dY]
  have hbb := hb.trans (hal.mono hb.size)
  have hrl := hr.lt.mono (F' := fun k => k < waX.heap.size ∧ k ≠ waA.heap.size ∨ waX.heap.size < k ∧ k < waY.heap.size) fun k hk => by have := HBel.out.size; have := HBxA.out.lt; have := HBxX.out.lt; omega
  have HRdY := Lib.hid (hrl.grow hal)
  replace HBxA := Lib.hid (HBxA.out.grow hbb)
  replace HBxX := Lib.hid (HBxX.out.grow hbb)
  replace HRdA := Lib.hid (HRdA.out.grow hbb)
  replace HRdX := Lib.hid (HRdX.out.grow hbb)
  replace HBel := Lib.hid (HBel.out.trans (hbb.mono HBel.out.size))
  clear pA0 pA1 pA2 pA3 pX0 pX1 pX2 pX3
  have HNS := Lib.hid ((okL okI).grow hu hal)
  obtain ⟨wY, hwY⟩ : ∃ x, waY.alloc (.cells #[.slice (some ⟨bY, oY, none⟩) 4 cY, .slice AY 0 dY] 41) = x := ⟨_, rfl⟩
  change BoxAt (waY.alloc (.cells #[.slice (some ⟨bY, oY, none⟩) 4 cY, .slice AY 0 dY] 41)) _ _ _ at hX
  rw [hwY] at hX HRdY HBel HBxA HBxX HRdA HRdX  HNS
  have HBxY := Lib.hid hX
  clear hal hX hbb hr hb hrl
  obtain ⟨pA0, pA1, pA2, pA3⟩ := HBxA.out.two
  obtain ⟨pX0, pX1, pX2, pX3⟩ := HBxX.out.two
  obtain ⟨pY0, pY1, pY2, pY3⟩ := HBxY.out.two
  go_wp2_with fail
  clear hwY
  clear hu
  have HBA := Lib.hid (good_blocks HA.out.1 HA.out.2)
  have HBX := Lib.hid (good_blocks HX.out.1 HX.out.2.1)
  refine (ref_Blocks a _ _ _ HRdA.out HA.out.1.shape).mono ?_
  rintro e wb1 ⟨vb1, rfl, hrb, hb⟩
  rw [HBA.out] at hrb ⊢
  obtain ⟨Ab1, cb1, rfl, _, _⟩ := hrb.shape
  replace HBxA := Lib.hid (HBxA.out.grow hb)
  replace HBxX := Lib.hid (HBxX.out.grow hb)
  replace HBxY := Lib.hid (HBxY.out.grow hb)
  replace HRdA := Lib.hid (HRdA.out.grow hb)
  replace HRdX := Lib.hid (HRdX.out.grow hb)
  replace HRdY := Lib.hid (HRdY.out.grow hb)
  replace HBel := Lib.hid (HBel.out.trans (hb.mono HBel.out.size))
  replace HNS := Lib.hid ((okL okI).grow HNS.out hb)
  clear pA0 pA1 pA2 pA3 pX0 pX1 pX2 pX3 pY0 pY1 pY2 pY3
  have HV1 := Lib.hid (okBB.mono hrb (F' := fun _ => True) fun _ _ => trivial)
  rw [blocksQ_len] at HV1 ⊢
  clear hrb hb
  obtain ⟨pA0, pA1, pA2, pA3⟩ := HBxA.out.two
  obtain ⟨pX0, pX1, pX2, pX3⟩ := HBxX.out.two
  obtain ⟨pY0, pY1, pY2, pY3⟩ := HBxY.out.two
  go_wp2_with fail
  refine (ref_Blocks x _ _ _ HRdX.out HX.out.1.shape).mono ?_
  rintro e wb2 ⟨vb2, rfl, hrb, hb⟩
  rw [HBX.out] at hrb ⊢
  obtain ⟨Ab2, cb2, rfl, _, _⟩ := hrb.shape
  replace HBxA := Lib.hid (HBxA.out.grow hb)
  replace HBxX := Lib.hid (HBxX.out.grow hb)
  replace HBxY := Lib.hid (HBxY.out.grow hb)
  replace HRdA := Lib.hid (HRdA.out.grow hb)
  replace HRdX := Lib.hid (HRdX.out.grow hb)
  replace HRdY := Lib.hid (HRdY.out.grow hb)
  replace HBel := Lib.hid (HBel.out.trans (hb.mono HBel.out.size))
  replace HNS := Lib.hid ((okL okI).grow HNS.out hb)
  replace HV1 := Lib.hid (okBB.grow HV1.out hb)
  clear pA0 pA1 pA2 pA3 pX0 pX1 pX2 pX3 pY0 pY1 pY2 pY3
  have HV2 := Lib.hid (okBB.mono hrb (F' := fun _ => True) fun _ _ => trivial)
  rw [blocksQ_len] at HV2 ⊢
  clear hrb hb
  obtain ⟨pA0, pA1, pA2, pA3⟩ := HBxA.out.two
  obtain ⟨pX0, pX1, pX2, pX3⟩ := HBxX.out.two
  obtain ⟨pY0, pY1, pY2, pY3⟩ := HBxY.out.two
  go_wp2_with fail
  unfold maxLen at hcnmY
  go_loopw [40] (fun i wr => ∃ k : Nat, k ≤ 3 ∧ i = .int .i64 k ∧ wr = wb2) (fun i _ => 3 - (intOf i).toNat)
  case atStart => exact ⟨0, Nat.zero_le _, rfl, rfl⟩
  case round =>
    obtain ⟨k, hk, rfl, rfl⟩ := hrel
    by_cases hlt : k < 3
    · obtain ⟨bn, on, un, rfl, _, hun, hRn⟩ := HNS.out.at_ (k := k) (by simpa using hlt)
      have hz : (List.replicate 3 (0 : Int))[k]'(by simpa using hlt) = 0 := List.getElem_replicate _
      rw [hz] at hRn
      obtain rfl : un = .int .i64 0 := hRn
      clear hz
      go_wp2
      go_roundw
      case rel => exact ⟨k + 1, by omega, by go_num, trivial⟩
      case measure => simp [intOf]; omega
    · obtain rfl : k = 3 := by omega
      go_wp2_with fail
      refine (ref_SameBytes _ _ _ _ _ _ HV1.out HV2.out).mono ?_
      rintro e wq1 ⟨rfl, hb⟩
      rw [beq_self_eq_true]
      replace HBxA := Lib.hid (HBxA.out.grow hb)
      replace HBxX := Lib.hid (HBxX.out.grow hb)
      replace HBxY := Lib.hid (HBxY.out.grow hb)
      replace HRdA := Lib.hid (HRdA.out.grow hb)
      replace HRdX := Lib.hid (HRdX.out.grow hb)
      replace HRdY := Lib.hid (HRdY.out.grow hb)
      replace HBel := Lib.hid (HBel.out.trans (hb.mono HBel.out.size))
      replace HNS := Lib.hid ((okL okI).grow HNS.out hb)
      replace HV1 := Lib.hid (okBB.grow HV1.out hb)
      replace HV2 := Lib.hid (okBB.grow HV2.out hb)
      clear pA0 pA1 pA2 pA3 pX0 pX1 pX2 pX3 pY0 pY1 pY2 pY3
      clear hb
      obtain ⟨pA0, pA1, pA2, pA3⟩ := HBxA.out.two
      obtain ⟨pX0, pX1, pX2, pX3⟩ := HBxX.out.two
      obtain ⟨pY0, pY1, pY2, pY3⟩ := HBxY.out.two
      go_wp2_with fail
      refine (mend_Worst x _ _ _ HRdX.out HX.out.1.shape).mono ?_
      rintro e wq2 ⟨rfl, hb⟩
      rw [HW0.out]
      replace HBxA := Lib.hid (HBxA.out.grow hb)
      replace HBxX := Lib.hid (HBxX.out.grow hb)
      replace HBxY := Lib.hid (HBxY.out.grow hb)
      replace HRdA := Lib.hid (HRdA.out.grow hb)
      replace HRdX := Lib.hid (HRdX.out.grow hb)
      replace HRdY := Lib.hid (HRdY.out.grow hb)
      replace HBel := Lib.hid (HBel.out.trans (hb.mono HBel.out.size))
      replace HNS := Lib.hid ((okL okI).grow HNS.out hb)
      replace HV1 := Lib.hid (okBB.grow HV1.out hb)
      replace HV2 := Lib.hid (okBB.grow HV2.out hb)
      clear pA0 pA1 pA2 pA3 pX0 pX1 pX2 pX3 pY0 pY1 pY2 pY3
      clear hb
      obtain ⟨pA0, pA1, pA2, pA3⟩ := HBxA.out.two
      obtain ⟨pX0, pX1, pX2, pX3⟩ := HBxX.out.two
      obtain ⟨pY0, pY1, pY2, pY3⟩ := HBxY.out.two
      go_wp2_with fail
      refine (ref_Same _ _ _ _ _ _ _ HRdX.out HRdY.out HX.out.1.shape HX.out.1.shape HX.out.1.none_ HX.out.1.none_).mono ?_
      rintro e wq3 ⟨rfl, hb⟩
      rw [beq_self_eq_true]
      replace HBxA := Lib.hid (HBxA.out.grow hb)
      replace HBxX := Lib.hid (HBxX.out.grow hb)
      replace HBxY := Lib.hid (HBxY.out.grow hb)
      replace HRdA := Lib.hid (HRdA.out.grow hb)
      replace HRdX := Lib.hid (HRdX.out.grow hb)
      replace HRdY := Lib.hid (HRdY.out.grow hb)
      replace HBel := Lib.hid (HBel.out.trans (hb.mono HBel.out.size))
      replace HNS := Lib.hid ((okL okI).grow HNS.out hb)
      replace HV1 := Lib.hid (okBB.grow HV1.out hb)
      replace HV2 := Lib.hid (okBB.grow HV2.out hb)
      clear pA0 pA1 pA2 pA3 pX0 pX1 pX2 pX3 pY0 pY1 pY2 pY3
      clear hb
      obtain ⟨pA0, pA1, pA2, pA3⟩ := HBxA.out.two
      obtain ⟨pX0, pX1, pX2, pX3⟩ := HBxX.out.two
      obtain ⟨pY0, pY1, pY2, pY3⟩ := HBxY.out.two
      go_wp2
      go_ret
      exact ⟨rfl, HBel.out⟩
namespace mendWellDone
open Go.ChangeShapes Go.WideShapes Go.ChangeAt Go.RowKit M
open Go.ChangeMaps (open_string shut_string)
set_option linter.unusedVariables false
set_option maxRecDepth 100000 in
theorem lifted (os : Os) (started : os.Started) (H : Type) (enc : TypeId × Value → H) :
    ReturnsInHanded {} Try.checked os 13 .any (Rows.mendWellSpec.pre6 enc Try.prog Try.f13 Rows.mendWellRow.domain false) (Rows.mendWellSpec.post enc Try.prog Try.f13 false true false false) := by
  refine returnsInHanded_of_change (C := Try.checked) own started (by kernel_rfl) Try.func13
    (ChangeSpec.witness6 (enc := enc) (C := Try.checked) false ⟨#[], #[.slice none 0 0], []⟩ 8 (by kernel_rfl) (by kernel_rfl) (by kernel_rfl) (by kernel_rfl)) ?_
  intro W base args ds gs before hval0 hW hcnd _
  have hval : ∀ (j : Nat) t v, Try.f13.params[j]? = some t → args[j]? = some v → Value.okWide Try.prog W .any base t v := hval0
  have hW' := hW
  obtain ⟨p, q, hA0, hV, rfl, hfz, hnd⟩ := hW
  have hA : DataW.TrodAll enc Try.prog W 0 (fun _ => true) true Try.f13.params.toList args.toList ds p := hA0
  rw [Try.params13] at hA hval
  obtain ⟨v0, vs0, d0, ds0, p0, q0, hargs, rfl, rfl, h0, r0⟩ := trodAll_cons hA
  obtain ⟨rfl, rfl, rfl⟩ := trodAll_nil r0
  obtain rfl : args = #[v0] := by cases args; simp_all
  obtain ⟨rfl, rfl⟩ := trodVars_none hV
  obtain ⟨a0, len0, cap0, rfl⟩ := okWide_slice Try.underlying37 (hval 0 37 v0 rfl rfl)
  have k0 := h0
  have lt0 : ∀ x ∈ p0, x.block < W.heap.size := by obtain ⟨m, hm⟩ := k0; exact DataW.trod_lt m _ _ _ hm
  obtain ⟨fuel0, hf0⟩ := h0
  obtain ⟨b0, w0, l0⟩ := open_steps hf0
  clear hA0 hval0
  refine (mendWell_walk b0 _ W w0).mono fun e W' ⟨he, bel⟩ => ?_
  subst he
  exact ⟨_, rfl, _, _, _, [], _, [], hW', trodAll_mk1 (shut_bool Try.underlying4 _), (trodAll_cons_mk (Below.trod laidOut (by kernel_rfl) (of_decide_eq_true (by kernel_rfl)) k0 bel lt0) trodAll_mk0), rfl, bel.frame _, fun h => by cases h⟩
theorem over : Rows.mendWellRow.holds Try.pinned (OpenSpec.ofChange Rows.mendWellSpec) :=
  OpenClaim.holds_of_wide 13 Try.f13 rfl rfl rfl rfl rfl rfl rfl ⟨rfl, rfl, rfl, rfl, rfl⟩ rfl rfl rfl rfl rfl (by kernel_rfl) Try.func13 (by kernel_rfl)
    (of_decide_eq_true (by kernel_rfl)) (by unfold Func.isWrapper; first | (rw [if_pos (by decide +kernel)]; kernel_rfl) | (rw [if_neg (by decide +kernel)]; exact ⟨rfl, rfl⟩))
    (fun os started H enc _ => lifted os started H enc)
/-- The statement. -/
theorem proved : Rows.MendWellSaid := over
end mendWellDone
end Go.Proofs.Ytlbnkoahkfhimaa

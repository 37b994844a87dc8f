/- Chapter 8: ArrayModel holds for every input: the call returns true, and each argument reads behind it as it read before. -/
import Derived.Test.YtoendmbgfbhidaaL8b
import Derived.Test.YtoendmbgfbhidaaOpenS
import Derived.Test.YtoendmbgfbhidaaZg
namespace Go.Proofs.Ytoendmbgfbhidaa
set_option linter.unusedVariables false
open Go Go.RowKit M
set_option maxRecDepth 100000 in
set_option maxHeartbeats 3200000 in
theorem arrayModel_walk (l : List Step) (vl : Value) (d : Deed) (vd : Value) (w : World) (hl : RdSts w (fun _ => True) vl l) (hd : RdD w (fun _ => True) vd d) :
    Calls Try.prog 4 #[vl, vd] w fun e w' => e = .returned (.bool true) ∧ Below w.heap.size w w' := by
  obtain ⟨Ast, cst, rfl, _, _⟩ := id hl
  obtain ⟨dv, rfl, hdv⟩ := hd
  replace hdv := okB.lt hdv
  obtain ⟨Ad, cd, rfl, _, _⟩ := hdv.shape
  have hX0 := boxAt_new w 25 [.int .i64 d.kind, .int .i64 d.n, .int .i64 d.m, .slice Ad d.data.length cd]
  have hl1 := below_alloc w (.cells #[.int .i64 d.kind, .int .i64 d.n, .int .i64 d.m, .slice Ad d.data.length cd] 25)
  obtain ⟨wB, hwB⟩ : ∃ x, w.alloc (.cells #[.int .i64 d.kind, .int .i64 d.n, .int .i64 d.m, .slice Ad d.data.length cd] 25) = x := ⟨_, rfl⟩
  change BoxAt (w.alloc (.cells #[.int .i64 d.kind, .int .i64 d.n, .int .i64 d.m, .slice Ad d.data.length cd] 25)) _ _ _ at hX0
  rw [hwB] at hX0 hl1
  have HBd := Lib.hid hX0
  have HDd := Lib.hid (okB.grow hdv hl1)
  have HL0 := Lib.hid (hl.below hl1 fun _ _ hk => hk)
  have HBel := Lib.hid hl1
  clear hl hX0 hl1 hdv
  go_enter Try.func4, Try.ntmps4
  go_wp2_with fail
  clear hwB
  refine (law8_alive _).mono ?_
  rintro e w0 ⟨rfl, hb⟩
  replace HBel := Lib.hid (HBel.out.trans (hb.mono HBel.out.size))
  replace HBd := Lib.hid (HBd.out.grow hb)
  replace HDd := Lib.hid (okB.grow HDd.out hb)
  have HL := Lib.hid (HL0.out.below hb fun _ _ hk => hk)
  clear hb HL0
  obtain ⟨pHBd0, pHBd1, pHBd2, pHBd3⟩ := HBd.out.four
  go_wp2_with fail
  obtain ⟨Q, hgd, hcalm⟩ := good_gentlyA l
  refine (ref_PlayGently l _ _ _ HL.out).mono ?_
  rintro e waA ⟨vA, rfl, hr, hb⟩
  obtain ⟨bA, oA, cA, AA, dA, rfl, _, _, hcA, hmA⟩ := RdA_open hr hgd.shape
  rw [show (gentlyA l).ints.length = 0 by rw [hgd.none_]; rfl] at hr ⊢
  have ord0A : w.heap.size ≤ waA.heap.size := Nat.le_trans HBel.out.size hb.size
  have hal := below_alloc waA (.cells #[.slice (some ⟨bA, oA, none⟩) 4 cA, .slice AA 0 dA] 30)
  have hX := boxAt_new waA 30 [.slice (some ⟨bA, oA, none⟩) 4 cA, .slice AA 0 dA]
  have hbb := hb.trans (hal.mono hb.size)
  have hrl := hr.lt.mono (F' := fun k => w.heap.size ≤ k ∧ k < waA.heap.size) fun k hk => by have := HBel.out.size;  omega
  have HRdA := Lib.hid (hrl.grow hal)
  replace HBel := Lib.hid (HBel.out.trans (hbb.mono HBel.out.size))
  replace HBd := Lib.hid (HBd.out.grow hbb)
  replace HDd := Lib.hid (okB.grow HDd.out hbb)
  clear pHBd0 pHBd1 pHBd2 pHBd3
  obtain ⟨wA, hwA⟩ : ∃ x, waA.alloc (.cells #[.slice (some ⟨bA, oA, none⟩) 4 cA, .slice AA 0 dA] 30) = x := ⟨_, rfl⟩
  change BoxAt (waA.alloc (.cells #[.slice (some ⟨bA, oA, none⟩) 4 cA, .slice AA 0 dA] 30)) _ _ _ at hX
  rw [hwA] at hX HRdA HBel   HBd HDd
  have HBxA := Lib.hid hX
  clear hal hX hbb hr hb hrl
  obtain ⟨pA0, pA1, pA2, pA3⟩ := HBxA.out.two
  obtain ⟨pHBd0, pHBd1, pHBd2, pHBd3⟩ := HBd.out.four
  go_wp2_with fail
  clear hwA
  generalize gentlyA l = a at *
  have HSN := Lib.hid (And.intro hgd.shape hgd.none_)
  have HGD := Lib.hid (And.intro hgd hcalm)
  have HBA := Lib.hid (good_blocks hgd hcalm)
  clear hgd hcalm
  refine (ref_Blocks a _ _ _ HRdA.out HSN.out.1).mono ?_
  rintro e wb1 ⟨vb1, rfl, hrb, hb⟩
  rw [HBA.out] at hrb ⊢
  obtain ⟨Ab1, cb1, rfl, _, _⟩ := hrb.shape
  replace HBxA := Lib.hid (HBxA.out.grow hb)
  replace HRdA := Lib.hid (HRdA.out.grow hb)
  replace HBel := Lib.hid (HBel.out.trans (hb.mono HBel.out.size))
  replace HBd := Lib.hid (HBd.out.grow hb)
  replace HDd := Lib.hid (okB.grow HDd.out hb)
  clear pA0 pA1 pA2 pA3 pHBd0 pHBd1 pHBd2 pHBd3
  have HV1 := Lib.hid (okBB.mono hrb (F' := fun _ => True) fun _ _ => trivial)
  rw [blocksQ_len] at HV1 ⊢
  clear hrb hb
  obtain ⟨pA0, pA1, pA2, pA3⟩ := HBxA.out.two
  obtain ⟨pHBd0, pHBd1, pHBd2, pHBd3⟩ := HBd.out.four
  go_wp2_with fail
  refine (array_Do a d _ _ _ _ HRdA.out ⟨_, rfl, HDd.out⟩ HSN.out.1 (.inl HSN.out.2)).mono ?_
  rintro e waX ⟨vX, rfl, hr, hb⟩
  obtain ⟨bX, oX, cX, AX, dX, rfl, _, _, hcX, hmX⟩ := RdA_open hr (doA_shape HSN.out.1 d)
  rw [show (doA a d).1.ints.length = 0 by rw [do_ints HSN.out.2 d]; rfl] at hr ⊢
  have ord0X : w.heap.size ≤ waX.heap.size := Nat.le_trans HBel.out.size hb.size
  have ordAX : waA.heap.size < waX.heap.size := Nat.lt_of_lt_of_le HBxA.out.lt hb.size
  have hal := below_alloc waX (.cells #[.slice (some ⟨bX, oX, none⟩) 4 cX, .slice AX 0 dX] 30)
  have hX := boxAt_new waX 30 [.slice (some ⟨bX, oX, none⟩) 4 cX, .slice AX 0 dX]
  have hbb := hb.trans (hal.mono hb.size)
  have hrl := hr.lt.mono (F' := fun k => waA.heap.size < k ∧ k < waX.heap.size) fun k hk => by have := HBel.out.size; have := HBxA.out.lt; omega
  have HRdX := Lib.hid (hrl.grow hal)
  replace HBxA := Lib.hid (HBxA.out.grow hbb)
  replace HRdA := Lib.hid (HRdA.out.grow hbb)
  replace HBel := Lib.hid (HBel.out.trans (hbb.mono HBel.out.size))
  replace HBd := Lib.hid (HBd.out.grow hbb)
  replace HDd := Lib.hid (okB.grow HDd.out hbb)
  replace HV1 := Lib.hid (okBB.grow HV1.out hbb)
  clear pA0 pA1 pA2 pA3 pHBd0 pHBd1 pHBd2 pHBd3
  obtain ⟨wX, hwX⟩ : ∃ x, waX.alloc (.cells #[.slice (some ⟨bX, oX, none⟩) 4 cX, .slice AX 0 dX] 30) = x := ⟨_, rfl⟩
  change BoxAt (waX.alloc (.cells #[.slice (some ⟨bX, oX, none⟩) 4 cX, .slice AX 0 dX] 30)) _ _ _ at hX
  rw [hwX] at hX HRdX HBel HBxA HRdA HBd HDd HV1
  have HBxX := Lib.hid hX
  clear hal hX hbb hr hb hrl
  obtain ⟨pA0, pA1, pA2, pA3⟩ := HBxA.out.two
  obtain ⟨pX0, pX1, pX2, pX3⟩ := HBxX.out.two
  obtain ⟨pHBd0, pHBd1, pHBd2, pHBd3⟩ := HBd.out.four
  have HSX := Lib.hid (And.intro (doA_shape HSN.out.1 d) (do_ints HSN.out.2 d))
  have HWR := Lib.hid (show wrongI d ≠ 0 → doA a d = (a, wrongI d) from doA_wrong)
  have HOK := Lib.hid (show wrongI d = 0 → _ from fun h => doA_good HGD.out.1 HGD.out.2 h)
  generalize hda : doA a d = r at *
  obtain ⟨x, xe⟩ := r
  clear hda
  dsimp only at *
  go_wp2_with fail
  clear hwX
  refine (ref_Wrong d _ _ _ ⟨_, rfl, HDd.out⟩).mono ?_
  rintro e wq1 ⟨rfl, hb⟩
  replace HBxA := Lib.hid (HBxA.out.grow hb)
  replace HBxX := Lib.hid (HBxX.out.grow hb)
  replace HRdA := Lib.hid (HRdA.out.grow hb)
  replace HRdX := Lib.hid (HRdX.out.grow hb)
  replace HBel := Lib.hid (HBel.out.trans (hb.mono HBel.out.size))
  replace HBd := Lib.hid (HBd.out.grow hb)
  replace HDd := Lib.hid (okB.grow HDd.out hb)
  replace HV1 := Lib.hid (okBB.grow HV1.out hb)
  clear pA0 pA1 pA2 pA3 pX0 pX1 pX2 pX3 pHBd0 pHBd1 pHBd2 pHBd3
  clear hb
  obtain ⟨pA0, pA1, pA2, pA3⟩ := HBxA.out.two
  obtain ⟨pX0, pX1, pX2, pX3⟩ := HBxX.out.two
  obtain ⟨pHBd0, pHBd1, pHBd2, pHBd3⟩ := HBd.out.four
  by_cases hr : wrongI d = 0
  rotate_left
  · have h1 := HWR.out hr
    have hne : (wrongI d != 0) = true := by simpa using hr
    have hxa : x = a := congrArg Prod.fst h1
    have hxe : xe = wrongI d := congrArg Prod.snd h1
    subst hxa
    subst hxe
    clear h1
    go_wp2_with fail
    refine (ref_Wrong d _ _ _ ⟨_, rfl, HDd.out⟩).mono ?_
    rintro e wq2 ⟨rfl, hb⟩
    replace HBxA := Lib.hid (HBxA.out.grow hb)
    replace HBxX := Lib.hid (HBxX.out.grow hb)
    replace HRdA := Lib.hid (HRdA.out.grow hb)
    replace HRdX := Lib.hid (HRdX.out.grow hb)
    replace HBel := Lib.hid (HBel.out.trans (hb.mono HBel.out.size))
    replace HBd := Lib.hid (HBd.out.grow hb)
    replace HDd := Lib.hid (okB.grow HDd.out hb)
    replace HV1 := Lib.hid (okBB.grow HV1.out hb)
    clear pA0 pA1 pA2 pA3 pX0 pX1 pX2 pX3 pHBd0 pHBd1 pHBd2 pHBd3
    clear hb
    obtain ⟨pA0, pA1, pA2, pA3⟩ := HBxA.out.two
    obtain ⟨pX0, pX1, pX2, pX3⟩ := HBxX.out.two
    obtain ⟨pHBd0, pHBd1, pHBd2, pHBd3⟩ := HBd.out.four
    go_wp2_with fail
    refine (ref_Same _ _ _ _ _ _ _ HRdX.out HRdA.out HSN.out.1 HSN.out.1 HSN.out.2 HSN.out.2).mono ?_
    rintro e wq3 ⟨rfl, hb⟩
    rw [beq_self_eq_true]
    replace HBxA := Lib.hid (HBxA.out.grow hb)
    replace HBxX := Lib.hid (HBxX.out.grow hb)
    replace HRdA := Lib.hid (HRdA.out.grow hb)
    replace HRdX := Lib.hid (HRdX.out.grow hb)
    replace HBel := Lib.hid (HBel.out.trans (hb.mono HBel.out.size))
    replace HBd := Lib.hid (HBd.out.grow hb)
    replace HDd := Lib.hid (okB.grow HDd.out hb)
    replace HV1 := Lib.hid (okBB.grow HV1.out hb)
    clear pA0 pA1 pA2 pA3 pX0 pX1 pX2 pX3 pHBd0 pHBd1 pHBd2 pHBd3
    clear hb
    obtain ⟨pA0, pA1, pA2, pA3⟩ := HBxA.out.two
    obtain ⟨pX0, pX1, pX2, pX3⟩ := HBxX.out.two
    obtain ⟨pHBd0, pHBd1, pHBd2, pHBd3⟩ := HBd.out.four
    go_wp2
    go_ret
    exact ⟨rfl, HBel.out⟩
  obtain ⟨hx0, hgx, hcx⟩ := HOK.out hr
  have HBX := Lib.hid (good_blocks hgx hcx)
  have HQB := Lib.hid (doQ_blocks hr fun s hs => (HGD.out.1.has s hs).dlen)
  have HRR := Lib.hid hr
  subst hx0
  rw [hr]
  clear hgx hcx hr
  go_wp2_with fail
  refine (array_Blocks x _ _ _ HRdX.out HSX.out.1).mono ?_
  rintro e wb2 ⟨vb2, rfl, hrb, hb⟩
  rw [HBX.out] at hrb ⊢
  obtain ⟨Ab2, cb2, rfl, _, _⟩ := hrb.shape
  replace HBxA := Lib.hid (HBxA.out.grow hb)
  replace HBxX := Lib.hid (HBxX.out.grow hb)
  replace HRdA := Lib.hid (HRdA.out.grow hb)
  replace HRdX := Lib.hid (HRdX.out.grow hb)
  replace HBel := Lib.hid (HBel.out.trans (hb.mono HBel.out.size))
  replace HBd := Lib.hid (HBd.out.grow hb)
  replace HDd := Lib.hid (okB.grow HDd.out hb)
  replace HV1 := Lib.hid (okBB.grow HV1.out hb)
  clear pA0 pA1 pA2 pA3 pX0 pX1 pX2 pX3 pHBd0 pHBd1 pHBd2 pHBd3
  have HV2 := Lib.hid (okBB.mono hrb (F' := fun _ => True) fun _ _ => trivial)
  rw [blocksQ_len] at HV2 ⊢
  clear hrb hb
  obtain ⟨pA0, pA1, pA2, pA3⟩ := HBxA.out.two
  obtain ⟨pX0, pX1, pX2, pX3⟩ := HBxX.out.two
  obtain ⟨pHBd0, pHBd1, pHBd2, pHBd3⟩ := HBd.out.four
  go_wp2_with fail
  refine (ref_Do (blocksQ Q) d _ _ (fun _ => True) _ HV1.out ⟨_, rfl, okB.mono HDd.out fun _ _ => trivial⟩ (blocksQ_len _) HRR.out).mono ?_
  rintro e wd ⟨vd, rfl, hvd, hb⟩
  have hrd := hvd.toRd_ okB
  rw [← HQB.out] at hrd
  obtain ⟨Ae, ce, rfl, _, _⟩ := hrd.shape
  replace HBxA := Lib.hid (HBxA.out.grow hb)
  replace HBxX := Lib.hid (HBxX.out.grow hb)
  replace HRdA := Lib.hid (HRdA.out.grow hb)
  replace HRdX := Lib.hid (HRdX.out.grow hb)
  replace HBel := Lib.hid (HBel.out.trans (hb.mono HBel.out.size))
  replace HBd := Lib.hid (HBd.out.grow hb)
  replace HDd := Lib.hid (okB.grow HDd.out hb)
  replace HV1 := Lib.hid (okBB.grow HV1.out hb)
  replace HV2 := Lib.hid (okBB.grow HV2.out hb)
  clear pA0 pA1 pA2 pA3 pX0 pX1 pX2 pX3 pHBd0 pHBd1 pHBd2 pHBd3
  rw [blocksQ_len] at hrd ⊢
  have HV3 := Lib.hid (okBB.mono hrd (F' := fun _ => True) fun _ _ => trivial)
  clear hrd hb hvd
  obtain ⟨pA0, pA1, pA2, pA3⟩ := HBxA.out.two
  obtain ⟨pX0, pX1, pX2, pX3⟩ := HBxX.out.two
  obtain ⟨pHBd0, pHBd1, pHBd2, pHBd3⟩ := HBd.out.four
  go_wp2_with fail
  refine (ref_SameBytes _ _ _ _ _ _ HV2.out HV3.out).mono ?_
  rintro e wq4 ⟨rfl, hb⟩
  rw [beq_self_eq_true]
  replace HBxA := Lib.hid (HBxA.out.grow hb)
  replace HBxX := Lib.hid (HBxX.out.grow hb)
  replace HRdA := Lib.hid (HRdA.out.grow hb)
  replace HRdX := Lib.hid (HRdX.out.grow hb)
  replace HBel := Lib.hid (HBel.out.trans (hb.mono HBel.out.size))
  replace HBd := Lib.hid (HBd.out.grow hb)
  replace HDd := Lib.hid (okB.grow HDd.out hb)
  replace HV1 := Lib.hid (okBB.grow HV1.out hb)
  replace HV2 := Lib.hid (okBB.grow HV2.out hb)
  replace HV3 := Lib.hid (okBB.grow HV3.out hb)
  clear pA0 pA1 pA2 pA3 pX0 pX1 pX2 pX3 pHBd0 pHBd1 pHBd2 pHBd3
  clear hb
  obtain ⟨pA0, pA1, pA2, pA3⟩ := HBxA.out.two
  obtain ⟨pX0, pX1, pX2, pX3⟩ := HBxX.out.two
  obtain ⟨pHBd0, pHBd1, pHBd2, pHBd3⟩ := HBd.out.four
  go_wp2
  go_ret
  exact ⟨rfl, HBel.out⟩
namespace arrayModelDone
open Go.ChangeShapes Go.WideShapes Go.ChangeAt Go.RowKit M
open Go.ChangeMaps (open_string shut_string)
set_option linter.unusedVariables false
set_option maxRecDepth 100000 in
theorem lifted (os : Os) (started : os.Started) (H : Type) (enc : TypeId × Value → H) :
    ReturnsInHanded {} Try.checked os 4 .any (Rows.arrayModelSpec.pre6 enc Try.prog Try.f4 Rows.arrayModelRow.domain false) (Rows.arrayModelSpec.post enc Try.prog Try.f4 false true false false) := by
  refine returnsInHanded_of_change (C := Try.checked) own started (by kernel_rfl) Try.func4
    (ChangeSpec.witness6 (enc := enc) (C := Try.checked) false ⟨#[], #[.slice none 0 0, .agg #[.int .i64 0, .int .i64 0, .int .i64 0, .slice none 0 0]], []⟩ 8 (by kernel_rfl) (by kernel_rfl) (by kernel_rfl) (by kernel_rfl)) ?_
  intro W base args ds gs before hval0 hW hcnd _
  have hval : ∀ (j : Nat) t v, Try.f4.params[j]? = some t → args[j]? = some v → Value.okWide Try.prog W .any base t v := hval0
  have hW' := hW
  obtain ⟨p, q, hA0, hV, rfl, hfz, hnd⟩ := hW
  have hA : DataW.TrodAll enc Try.prog W 0 (fun _ => true) true Try.f4.params.toList args.toList ds p := hA0
  rw [Try.params4] at hA hval
  obtain ⟨v0, vs0, d0, ds0, p0, q0, hargs, rfl, rfl, h0, r0⟩ := trodAll_cons hA
  obtain ⟨v1, vs1, d1, ds1, p1, q1, rfl, rfl, rfl, h1, r1⟩ := trodAll_cons r0
  obtain ⟨rfl, rfl, rfl⟩ := trodAll_nil r1
  obtain rfl : args = #[v0, v1] := by cases args; simp_all
  obtain ⟨rfl, rfl⟩ := trodVars_none hV
  obtain ⟨a0, len0, cap0, rfl⟩ := okWide_slice Try.underlying22 (hval 0 22 v0 rfl rfl)
  have k0 := h0
  have lt0 : ∀ x ∈ p0, x.block < W.heap.size := by obtain ⟨m, hm⟩ := k0; exact DataW.trod_lt m _ _ _ hm
  obtain ⟨fuel0, hf0⟩ := h0
  obtain ⟨b0, w0, l0⟩ := open_steps hf0
  obtain ⟨b1, w1⟩ := open_deed (hval 1 25 v1 rfl rfl) h1
  have k1 := h1
  have lt1 : ∀ x ∈ p1, x.block < W.heap.size := by obtain ⟨m, hm⟩ := k1; exact DataW.trod_lt m _ _ _ hm
  clear hA0 hval0
  refine (arrayModel_walk b0 _ b1 _ W w0 w1).mono fun e W' ⟨he, bel⟩ => ?_
  subst he
  exact ⟨_, rfl, _, _, _, [], _, [], hW', trodAll_mk1 (shut_bool Try.underlying4 _), (trodAll_cons_mk (Below.trod laidOut (by kernel_rfl) (of_decide_eq_true (by kernel_rfl)) k0 bel lt0) (trodAll_cons_mk (Below.trod laidOut (by kernel_rfl) (of_decide_eq_true (by kernel_rfl)) k1 bel lt1) trodAll_mk0)), rfl, bel.frame _, fun h => by cases h⟩
theorem over : Rows.arrayModelRow.holds Try.pinned (OpenSpec.ofChange Rows.arrayModelSpec) :=
  OpenClaim.holds_of_wide 4 Try.f4 rfl rfl rfl rfl rfl rfl rfl ⟨rfl, rfl, rfl, rfl, rfl⟩ rfl rfl rfl rfl rfl (by kernel_rfl) Try.func4 (by kernel_rfl)
    (of_decide_eq_true (by kernel_rfl)) (by unfold Func.isWrapper; first | (rw [if_pos (by decide +kernel)]; kernel_rfl) | (rw [if_neg (by decide +kernel)]; exact ⟨rfl, rfl⟩))
    (fun os started H enc _ => lifted os started H enc)
/-- The statement. -/
theorem proved : Rows.ArrayModelSaid := over
end arrayModelDone
end Go.Proofs.Ytoendmbgfbhidaa

/- Chapter 8: ArrayHalf holds for every input: the call returns true, and each argument reads behind it as it read before. -/
import Derived.Test.YtoendmbgfbhidaaL8b
import Derived.Test.YtoendmbgfbhidaaOpenS
import Derived.Test.YtoendmbgfbhidaaZg
namespace Go.Proofs.Ytoendmbgfbhidaa
set_option linter.unusedVariables false
open Go Go.RowKit M
theorem write_intsOk {a : Arr} (h : a.ints = []) {i : Int × List Bs} (hi : IntOk i) (n : Int) : IntsOk (writeA a i n) := by
  unfold IntsOk
  rw [write_eq]
  dsimp only
  split
  · exact .inl rfl
  · split
    · exact .inr ⟨i, rfl, hi⟩
    · exact .inl h
theorem plan_err_nil {D : List (List Bs)} {d : Deed} (h : (planA D d).2 ≠ 0) : (planA D d).1.2 = [] := by
  by_cases hw : wrongI d = 0
  · by_cases h9 : (dataL (cellsA D (d.n.toNat / 3)) (d.n.toNat / 3)).2 = 0
    · rw [plan_had hw h9] at h; exact absurd rfl h
    · rw [plan_lost hw h9]
  · rw [plan_wrong hw]
theorem half_good {a : Arr} {Q : Nat → List Bs} (h : M.Good a Q) (hc : M.Calm a) {d : Deed} (hp : (planA a.disks d).2 = 0) (n : Int) :
    ∃ Q', M.Good (mountA (writeA a (planA a.disks d).1 n)) Q' ∧ M.Calm (mountA (writeA a (planA a.disks d).1 n)) ∧ wrongI d = 0 ∧ (blocksQ Q' = blocksQ Q ∨ blocksQ Q' = doD (blocksQ Q) d) := by
  have hr := (plan_form h.shape hp).1
  obtain ⟨⟨n0, n1⟩, _⟩ := wrong_ok hr
  have hpl := good_plan h hr (hc _ (by omega))
  have hio := intOk_plan h.shape hp
  rcases mount_half (.inl rfl) h.shape h.none_ hio.2.1 hio.2.2.2 n with e | e
  · exact ⟨Q, by rw [show mountA (writeA a (planA a.disks d).1 n) = a from e]; exact h, by rw [show mountA (writeA a (planA a.disks d).1 n) = a from e]; exact hc, hr, .inl rfl⟩
  · obtain ⟨g1, g2⟩ := good_do h hr
    refine ⟨doQ Q d, ?_, ?_, hr, .inr (doQ_blocks hr fun s hs => (h.has s hs).dlen)⟩
    · rw [show mountA (writeA a (planA a.disks d).1 n) = putA a (planA a.disks d).1 from e, hpl]; exact g1
    · rw [show mountA (writeA a (planA a.disks d).1 n) = putA a (planA a.disks d).1 from e, hpl]; exact g2 hc
set_option maxRecDepth 100000 in
set_option maxHeartbeats 3200000 in
theorem arrayHalf_walk (l : List Step) (vl : Value) (d : Deed) (vd : Value) (many : Int) (w : World) (hl : RdSts w (fun _ => True) vl l) (hd : RdD w (fun _ => True) vd d) (hm0 : -9223372036854775808 ≤ many) (hm1 : many ≤ 9223372036854775807) :
    Calls Try.prog 7 #[vl, vd, .int .i64 many] w fun e w' => e = .returned (.bool true) ∧ Below w.heap.size w w' := by
  obtain ⟨Ast, cst, rfl, _, _⟩ := id hl
  obtain ⟨dv, rfl, hdv⟩ := hd
  replace hdv := okB.lt hdv
  obtain ⟨Ad, cd, rfl, _, _⟩ := hdv.shape
  have hX0 := boxAt_new w 25 [.int .i64 d.kind, .int .i64 d.n, .int .i64 d.m, .slice Ad d.data.length cd]
  have hl1 := below_alloc w (.cells #[.int .i64 d.kind, .int .i64 d.n, .int .i64 d.m, .slice Ad d.data.length cd] 25)
  obtain ⟨wB, hwB⟩ : ∃ x, w.alloc (.cells #[.int .i64 d.kind, .int .i64 d.n, .int .i64 d.m, .slice Ad d.data.length cd] 25) = x := ⟨_, rfl⟩
  change BoxAt (w.alloc (.cells #[.int .i64 d.kind, .int .i64 d.n, .int .i64 d.m, .slice Ad d.data.length cd] 25)) _ _ _ at hX0
  rw [hwB] at hX0 hl1
  have HBd := Lib.hid hX0
  have HDd := Lib.hid (okB.grow hdv hl1)
  have HL0 := Lib.hid (hl.below hl1 fun _ _ hk => hk)
  have HBel := Lib.hid hl1
  clear hl hX0 hl1 hdv
  go_enter Try.func7, Try.ntmps7
  go_wp2_with fail
  clear hwB
  refine (law8_alive _).mono ?_
  rintro e w0 ⟨rfl, hb⟩
  replace HBel := Lib.hid (HBel.out.trans (hb.mono HBel.out.size))
  replace HBd := Lib.hid (HBd.out.grow hb)
  replace HDd := Lib.hid (okB.grow HDd.out hb)
  have HL := Lib.hid (HL0.out.below hb fun _ _ hk => hk)
  clear hb HL0
  obtain ⟨pHBd0, pHBd1, pHBd2, pHBd3⟩ := HBd.out.four
  go_wp2_with fail
  obtain ⟨Q, hgd, hcalm⟩ := good_gentlyA l
  refine (ref_PlayGently l _ _ _ HL.out).mono ?_
  rintro e waA ⟨vA, rfl, hr, hb⟩
  obtain ⟨bA, oA, cA, AA, dA, rfl, _, _, hcA, hmA⟩ := RdA_open hr hgd.shape
  rw [show (gentlyA l).ints.length = 0 by rw [hgd.none_]; rfl] at hr ⊢
  have ord0A : w.heap.size ≤ waA.heap.size := Nat.le_trans HBel.out.size hb.size
  have hal := below_alloc waA (.cells #[.slice (some ⟨bA, oA, none⟩) 4 cA, .slice AA 0 dA] 30)
  have hX := boxAt_new waA 30 [.slice (some ⟨bA, oA, none⟩) 4 cA, .slice AA 0 dA]
  have hbb := hb.trans (hal.mono hb.size)
  have hrl := hr.lt.mono (F' := fun k => w.heap.size ≤ k ∧ k < waA.heap.size) fun k hk => by have := HBel.out.size;  omega
  have HRdA := Lib.hid (hrl.grow hal)
  replace HBel := Lib.hid (HBel.out.trans (hbb.mono HBel.out.size))
  replace HBd := Lib.hid (HBd.out.grow hbb)
  replace HDd := Lib.hid (okB.grow HDd.out hbb)
  clear pHBd0 pHBd1 pHBd2 pHBd3
  obtain ⟨wA, hwA⟩ : ∃ x, waA.alloc (.cells #[.slice (some ⟨bA, oA, none⟩) 4 cA, .slice AA 0 dA] 30) = x := ⟨_, rfl⟩
  change BoxAt (waA.alloc (.cells #[.slice (some ⟨bA, oA, none⟩) 4 cA, .slice AA 0 dA] 30)) _ _ _ at hX
  rw [hwA] at hX HRdA HBel   HBd HDd
  have HBxA := Lib.hid hX
  clear hal hX hbb hr hb hrl
  obtain ⟨pA0, pA1, pA2, pA3⟩ := HBxA.out.two
  obtain ⟨pHBd0, pHBd1, pHBd2, pHBd3⟩ := HBd.out.four
  go_wp2_with fail
  clear hwA
  generalize gentlyA l = a at *
  have HSN := Lib.hid (And.intro hgd.shape hgd.none_)
  have HGD := Lib.hid (And.intro hgd hcalm)
  have HBA := Lib.hid (good_blocks hgd hcalm)
  clear hgd hcalm
  refine (ref_Blocks a _ _ _ HRdA.out HSN.out.1).mono ?_
  rintro e wb1 ⟨vb1, rfl, hrb, hb⟩
  rw [HBA.out] at hrb ⊢
  obtain ⟨Ab1, cb1, rfl, _, _⟩ := hrb.shape
  replace HBxA := Lib.hid (HBxA.out.grow hb)
  replace HRdA := Lib.hid (HRdA.out.grow hb)
  replace HBel := Lib.hid (HBel.out.trans (hb.mono HBel.out.size))
  replace HBd := Lib.hid (HBd.out.grow hb)
  replace HDd := Lib.hid (okB.grow HDd.out hb)
  clear pA0 pA1 pA2 pA3 pHBd0 pHBd1 pHBd2 pHBd3
  have HV1 := Lib.hid (okBB.mono hrb (F' := fun _ => True) fun _ _ => trivial)
  rw [blocksQ_len] at HV1 ⊢
  clear hrb hb
  obtain ⟨pA0, pA1, pA2, pA3⟩ := HBxA.out.two
  obtain ⟨pHBd0, pHBd1, pHBd2, pHBd3⟩ := HBd.out.four
  go_wp2_with fail
  refine (array_Plan a d _ _ _ _ HRdA.out ⟨_, rfl, HDd.out⟩ HSN.out.1).mono ?_
  rintro e waI ⟨vI, rfl, ⟨cvI, rfl, hrI⟩, hb⟩
  obtain ⟨AI, cI, rfl, _, _⟩ := hrI.shape
  have ord0I : w.heap.size ≤ waI.heap.size := Nat.le_trans HBel.out.size hb.size
  have ordAI : waA.heap.size < waI.heap.size := Nat.lt_of_lt_of_le HBxA.out.lt hb.size
  have hal := below_alloc waI (.cells #[.int .i64 (planA a.disks d).1.1, .slice AI (planA a.disks d).1.2.length cI] 46)
  have hX := boxAt_new waI 46 [.int .i64 (planA a.disks d).1.1, .slice AI (planA a.disks d).1.2.length cI]
  have hbb := hb.trans (hal.mono hb.size)
  have HRI := Lib.hid (okBB.grow (okBB.lt hrI) hal)
  replace HBxA := Lib.hid (HBxA.out.grow hbb)
  replace HRdA := Lib.hid (HRdA.out.grow hbb)
  replace HBel := Lib.hid (HBel.out.trans (hbb.mono HBel.out.size))
  replace HBd := Lib.hid (HBd.out.grow hbb)
  replace HDd := Lib.hid (okB.grow HDd.out hbb)
  replace HV1 := Lib.hid (okBB.grow HV1.out hbb)
  clear pA0 pA1 pA2 pA3 pHBd0 pHBd1 pHBd2 pHBd3
  obtain ⟨wI, hwI⟩ : ∃ x, waI.alloc (.cells #[.int .i64 (planA a.disks d).1.1, .slice AI (planA a.disks d).1.2.length cI] 46) = x := ⟨_, rfl⟩
  change BoxAt (waI.alloc (.cells #[.int .i64 (planA a.disks d).1.1, .slice AI (planA a.disks d).1.2.length cI] 46)) _ _ _ at hX
  rw [hwI] at hX HRI HBel HBxA HRdA HBd HDd HV1
  have HBxI := Lib.hid hX
  clear hal hX hbb hb hrI
  obtain ⟨pA0, pA1, pA2, pA3⟩ := HBxA.out.two
  obtain ⟨pI0, pI1, pI2, pI3⟩ := HBxI.out.two
  obtain ⟨pHBd0, pHBd1, pHBd2, pHBd3⟩ := HBd.out.four
  have HER := Lib.hid (@plan_err_nil a.disks d)
  have HIO := Lib.hid (@intOk_plan a.disks HSN.out.1 d)
  have HOK := Lib.hid (fun h => half_good HGD.out.1 HGD.out.2 (d := d) h many)
  generalize planA a.disks d = pl at *
  obtain ⟨i, pe⟩ := pl
  dsimp only at *
  by_cases he : pe = 0
  rotate_left
  · have hne : (pe != 0) = true := by simpa using he
    have hnil : i.2 = [] := HER.out he
    have hlen : i.2.length = 0 := by rw [hnil]; rfl
    clear he hnil
    rw [hlen] at hwI HBxI ⊢
    clear pA0 pA1 pA2 pA3 pI0 pI1 pI2 pI3 pHBd0 pHBd1 pHBd2 pHBd3
    obtain ⟨pA0, pA1, pA2, pA3⟩ := HBxA.out.two
    obtain ⟨pI0, pI1, pI2, pI3⟩ := HBxI.out.two
    obtain ⟨pHBd0, pHBd1, pHBd2, pHBd3⟩ := HBd.out.four
    go_wp2
    go_ret
    exact ⟨rfl, HBel.out⟩
  subst he
  obtain ⟨Q', hgx, hcx, hr, hbl⟩ := HOK.out rfl
  have hio := HIO.out rfl
  have HBX := Lib.hid (good_blocks hgx hcx)
  have HBL := Lib.hid hbl
  have HRR := Lib.hid hr
  have HSX := Lib.hid (And.intro hgx.shape hgx.none_)
  have HSW := Lib.hid (And.intro (show Shape (writeA a i many).disks from putTo_shape HSN.out.1 _ hio.2.2.2 _) (write_intsOk HSN.out.2 hio many))
  have HIK := Lib.hid hio
  clear hgx hcx hr hbl hio HER HOK HIO
  go_wp2_with fail
  clear hwI
  refine (array_Write a i many _ _ _ _ HRdA.out ⟨_, rfl, HRI.out⟩ HSN.out.1 (.inl HSN.out.2) HIK.out hm0 hm1).mono ?_
  rintro e wv ⟨vv, rfl, hr, hb⟩
  obtain ⟨bv, ov, cv, Av, dv, rfl, _, _, _, _⟩ := RdA_open hr HSW.out.1
  replace HBxA := Lib.hid (HBxA.out.grow hb)
  replace HBxI := Lib.hid (HBxI.out.grow hb)
  replace HRdA := Lib.hid (HRdA.out.grow hb)
  replace HBel := Lib.hid (HBel.out.trans (hb.mono HBel.out.size))
  replace HBd := Lib.hid (HBd.out.grow hb)
  replace HDd := Lib.hid (okB.grow HDd.out hb)
  replace HV1 := Lib.hid (okBB.grow HV1.out hb)
  replace HRI := Lib.hid (okBB.grow HRI.out hb)
  clear pA0 pA1 pA2 pA3 pI0 pI1 pI2 pI3 pHBd0 pHBd1 pHBd2 pHBd3
  have HRW := Lib.hid hr
  clear hr hb
  obtain ⟨pA0, pA1, pA2, pA3⟩ := HBxA.out.two
  obtain ⟨pI0, pI1, pI2, pI3⟩ := HBxI.out.two
  obtain ⟨pHBd0, pHBd1, pHBd2, pHBd3⟩ := HBd.out.four
  go_wp2_with fail
  refine (array_Mount (writeA a i many) _ _ _ HRW.out HSW.out.1 HSW.out.2).mono ?_
  rintro e waX ⟨vX, rfl, hr, hb⟩
  obtain ⟨bX, oX, cX, AX, dX, rfl, _, _, hcX, hmX⟩ := RdA_open hr HSX.out.1
  rw [show (mountA (writeA a i many)).ints.length = 0 by rw [HSX.out.2]; rfl] at hr ⊢
  have ord0X : w.heap.size ≤ waX.heap.size := Nat.le_trans HBel.out.size hb.size
  have ordAX : waA.heap.size < waX.heap.size := Nat.lt_of_lt_of_le HBxA.out.lt hb.size
  have ordIX : waI.heap.size < waX.heap.size := Nat.lt_of_lt_of_le HBxI.out.lt hb.size
  have hal := below_alloc waX (.cells #[.slice (some ⟨bX, oX, none⟩) 4 cX, .slice AX 0 dX] 30)
  have hX := boxAt_new waX 30 [.slice (some ⟨bX, oX, none⟩) 4 cX, .slice AX 0 dX]
  have hbb := hb.trans (hal.mono hb.size)
  have hrl := hr.lt.mono (F' := fun k => waI.heap.size < k ∧ k < waX.heap.size) fun k hk => by have := HBel.out.size; have := HBxA.out.lt; have := HBxI.out.lt; omega
  have HRdX := Lib.hid (hrl.grow hal)
  replace HBxA := Lib.hid (HBxA.out.grow hbb)
  replace HBxI := Lib.hid (HBxI.out.grow hbb)
  replace HRdA := Lib.hid (HRdA.out.grow hbb)
  replace HBel := Lib.hid (HBel.out.trans (hbb.mono HBel.out.size))
  replace HBd := Lib.hid (HBd.out.grow hbb)
  replace HDd := Lib.hid (okB.grow HDd.out hbb)
  replace HV1 := Lib.hid (okBB.grow HV1.out hbb)
  replace HRI := Lib.hid (okBB.grow HRI.out hbb)
  replace HRW := Lib.hid (HRW.out.grow hbb)
  clear pA0 pA1 pA2 pA3 pI0 pI1 pI2 pI3 pHBd0 pHBd1 pHBd2 pHBd3
  obtain ⟨wX, hwX⟩ : ∃ x, waX.alloc (.cells #[.slice (some ⟨bX, oX, none⟩) 4 cX, .slice AX 0 dX] 30) = x := ⟨_, rfl⟩
  change BoxAt (waX.alloc (.cells #[.slice (some ⟨bX, oX, none⟩) 4 cX, .slice AX 0 dX] 30)) _ _ _ at hX
  rw [hwX] at hX HRdX HBel HBxA HBxI HRdA HBd HDd HV1 HRI HRW
  have HBxX := Lib.hid hX
  clear hal hX hbb hr hb hrl
  obtain ⟨pA0, pA1, pA2, pA3⟩ := HBxA.out.two
  obtain ⟨pI0, pI1, pI2, pI3⟩ := HBxI.out.two
  obtain ⟨pX0, pX1, pX2, pX3⟩ := HBxX.out.two
  obtain ⟨pHBd0, pHBd1, pHBd2, pHBd3⟩ := HBd.out.four
  generalize mountA (writeA a i many) = x at *
  go_wp2_with fail
  clear hwX
  refine (array_Blocks x _ _ _ HRdX.out HSX.out.1).mono ?_
  rintro e wb2 ⟨vb2, rfl, hrb, hb⟩
  rw [HBX.out] at hrb ⊢
  obtain ⟨Ab2, cb2, rfl, _, _⟩ := hrb.shape
  replace HBxA := Lib.hid (HBxA.out.grow hb)
  replace HBxI := Lib.hid (HBxI.out.grow hb)
  replace HBxX := Lib.hid (HBxX.out.grow hb)
  replace HRdA := Lib.hid (HRdA.out.grow hb)
  replace HRdX := Lib.hid (HRdX.out.grow hb)
  replace HBel := Lib.hid (HBel.out.trans (hb.mono HBel.out.size))
  replace HBd := Lib.hid (HBd.out.grow hb)
  replace HDd := Lib.hid (okB.grow HDd.out hb)
  replace HV1 := Lib.hid (okBB.grow HV1.out hb)
  replace HRI := Lib.hid (okBB.grow HRI.out hb)
  replace HRW := Lib.hid (HRW.out.grow hb)
  clear pA0 pA1 pA2 pA3 pI0 pI1 pI2 pI3 pX0 pX1 pX2 pX3 pHBd0 pHBd1 pHBd2 pHBd3
  have HV2 := Lib.hid (okBB.mono hrb (F' := fun _ => True) fun _ _ => trivial)
  rw [blocksQ_len] at HV2 ⊢
  clear hrb hb
  obtain ⟨pA0, pA1, pA2, pA3⟩ := HBxA.out.two
  obtain ⟨pI0, pI1, pI2, pI3⟩ := HBxI.out.two
  obtain ⟨pX0, pX1, pX2, pX3⟩ := HBxX.out.two
  obtain ⟨pHBd0, pHBd1, pHBd2, pHBd3⟩ := HBd.out.four
  go_wp2_with fail
  refine (ref_SameBytes _ _ _ _ _ _ HV2.out HV1.out).mono ?_
  rintro e wq1 ⟨rfl, hb⟩
  replace HBxA := Lib.hid (HBxA.out.grow hb)
  replace HBxI := Lib.hid (HBxI.out.grow hb)
  replace HBxX := Lib.hid (HBxX.out.grow hb)
  replace HRdA := Lib.hid (HRdA.out.grow hb)
  replace HRdX := Lib.hid (HRdX.out.grow hb)
  replace HBel := Lib.hid (HBel.out.trans (hb.mono HBel.out.size))
  replace HBd := Lib.hid (HBd.out.grow hb)
  replace HDd := Lib.hid (okB.grow HDd.out hb)
  replace HV1 := Lib.hid (okBB.grow HV1.out hb)
  replace HRI := Lib.hid (okBB.grow HRI.out hb)
  replace HRW := Lib.hid (HRW.out.grow hb)
  replace HV2 := Lib.hid (okBB.grow HV2.out hb)
  clear pA0 pA1 pA2 pA3 pI0 pI1 pI2 pI3 pX0 pX1 pX2 pX3 pHBd0 pHBd1 pHBd2 pHBd3
  clear hb
  obtain ⟨pA0, pA1, pA2, pA3⟩ := HBxA.out.two
  obtain ⟨pI0, pI1, pI2, pI3⟩ := HBxI.out.two
  obtain ⟨pX0, pX1, pX2, pX3⟩ := HBxX.out.two
  obtain ⟨pHBd0, pHBd1, pHBd2, pHBd3⟩ := HBd.out.four
  by_cases hsame : (blocksQ Q' == blocksQ Q) = true
  · rw [hsame]
    go_wp2
    go_ret
    exact ⟨rfl, HBel.out⟩
  have hs0 : (blocksQ Q' == blocksQ Q) = false := by simpa using hsame
  have HQB : Hid (blocksQ Q' = doD (blocksQ Q) d) := Lib.hid (HBL.out.resolve_left fun h => hsame (by rw [h]; exact beq_self_eq_true _))
  rw [hs0]
  clear hsame hs0
  go_wp2_with fail
  refine (ref_Do (blocksQ Q) d _ _ (fun _ => True) _ HV1.out ⟨_, rfl, okB.mono HDd.out fun _ _ => trivial⟩ (blocksQ_len _) HRR.out).mono ?_
  rintro e wd ⟨vd, rfl, hvd, hb⟩
  have hrd := hvd.toRd_ okB
  rw [← HQB.out] at hrd
  obtain ⟨Ae, ce, rfl, _, _⟩ := hrd.shape
  replace HBxA := Lib.hid (HBxA.out.grow hb)
  replace HBxI := Lib.hid (HBxI.out.grow hb)
  replace HBxX := Lib.hid (HBxX.out.grow hb)
  replace HRdA := Lib.hid (HRdA.out.grow hb)
  replace HRdX := Lib.hid (HRdX.out.grow hb)
  replace HBel := Lib.hid (HBel.out.trans (hb.mono HBel.out.size))
  replace HBd := Lib.hid (HBd.out.grow hb)
  replace HDd := Lib.hid (okB.grow HDd.out hb)
  replace HV1 := Lib.hid (okBB.grow HV1.out hb)
  replace HRI := Lib.hid (okBB.grow HRI.out hb)
  replace HRW := Lib.hid (HRW.out.grow hb)
  replace HV2 := Lib.hid (okBB.grow HV2.out hb)
  clear pA0 pA1 pA2 pA3 pI0 pI1 pI2 pI3 pX0 pX1 pX2 pX3 pHBd0 pHBd1 pHBd2 pHBd3
  rw [blocksQ_len] at hrd ⊢
  have HV3 := Lib.hid (okBB.mono hrd (F' := fun _ => True) fun _ _ => trivial)
  clear hrd hb hvd
  obtain ⟨pA0, pA1, pA2, pA3⟩ := HBxA.out.two
  obtain ⟨pI0, pI1, pI2, pI3⟩ := HBxI.out.two
  obtain ⟨pX0, pX1, pX2, pX3⟩ := HBxX.out.two
  obtain ⟨pHBd0, pHBd1, pHBd2, pHBd3⟩ := HBd.out.four
  go_wp2_with fail
  refine (ref_SameBytes _ _ _ _ _ _ HV2.out HV3.out).mono ?_
  rintro e wq2 ⟨rfl, hb⟩
  rw [beq_self_eq_true]
  replace HBxA := Lib.hid (HBxA.out.grow hb)
  replace HBxI := Lib.hid (HBxI.out.grow hb)
  replace HBxX := Lib.hid (HBxX.out.grow hb)
  replace HRdA := Lib.hid (HRdA.out.grow hb)
  replace HRdX := Lib.hid (HRdX.out.grow hb)
  replace HBel := Lib.hid (HBel.out.trans (hb.mono HBel.out.size))
  replace HBd := Lib.hid (HBd.out.grow hb)
  replace HDd := Lib.hid (okB.grow HDd.out hb)
  replace HV1 := Lib.hid (okBB.grow HV1.out hb)
  replace HRI := Lib.hid (okBB.grow HRI.out hb)
  replace HRW := Lib.hid (HRW.out.grow hb)
  replace HV2 := Lib.hid (okBB.grow HV2.out hb)
  replace HV3 := Lib.hid (okBB.grow HV3.out hb)
  clear pA0 pA1 pA2 pA3 pI0 pI1 pI2 pI3 pX0 pX1 pX2 pX3 pHBd0 pHBd1 pHBd2 pHBd3
  clear hb
  obtain ⟨pA0, pA1, pA2, pA3⟩ := HBxA.out.two
  obtain ⟨pI0, pI1, pI2, pI3⟩ := HBxI.out.two
  obtain ⟨pX0, pX1, pX2, pX3⟩ := HBxX.out.two
  obtain ⟨pHBd0, pHBd1, pHBd2, pHBd3⟩ := HBd.out.four
  go_wp2
  go_ret
  exact ⟨rfl, HBel.out⟩
namespace arrayHalfDone
open Go.ChangeShapes Go.WideShapes Go.ChangeAt Go.RowKit M
open Go.ChangeMaps (open_string shut_string)
set_option linter.unusedVariables false
set_option maxRecDepth 100000 in
theorem lifted (os : Os) (started : os.Started) (H : Type) (enc : TypeId × Value → H) :
    ReturnsInHanded {} Try.checked os 7 .any (Rows.arrayHalfSpec.pre6 enc Try.prog Try.f7 Rows.arrayHalfRow.domain false) (Rows.arrayHalfSpec.post enc Try.prog Try.f7 false true false false) := by
  refine returnsInHanded_of_change (C := Try.checked) own started (by kernel_rfl) Try.func7
    (ChangeSpec.witness6 (enc := enc) (C := Try.checked) false ⟨#[], #[.slice none 0 0, .agg #[.int .i64 0, .int .i64 0, .int .i64 0, .slice none 0 0], .int .i64 0], []⟩ 8 (by kernel_rfl) (by kernel_rfl) (by kernel_rfl) (by kernel_rfl)) ?_
  intro W base args ds gs before hval0 hW hcnd _
  have hval : ∀ (j : Nat) t v, Try.f7.params[j]? = some t → args[j]? = some v → Value.okWide Try.prog W .any base t v := hval0
  have hW' := hW
  obtain ⟨p, q, hA0, hV, rfl, hfz, hnd⟩ := hW
  have hA : DataW.TrodAll enc Try.prog W 0 (fun _ => true) true Try.f7.params.toList args.toList ds p := hA0
  rw [Try.params7] at hA hval
  obtain ⟨v0, vs0, d0, ds0, p0, q0, hargs, rfl, rfl, h0, r0⟩ := trodAll_cons hA
  obtain ⟨v1, vs1, d1, ds1, p1, q1, rfl, rfl, rfl, h1, r1⟩ := trodAll_cons r0
  obtain ⟨v2, vs2, d2, ds2, p2, q2, rfl, rfl, rfl, h2, r2⟩ := trodAll_cons r1
  obtain ⟨rfl, rfl, rfl⟩ := trodAll_nil r2
  obtain rfl : args = #[v0, v1, v2] := by cases args; simp_all
  obtain ⟨rfl, rfl⟩ := trodVars_none hV
  obtain ⟨a0, len0, cap0, rfl⟩ := okWide_slice Try.underlying22 (hval 0 22 v0 rfl rfl)
  have k0 := h0
  have lt0 : ∀ x ∈ p0, x.block < W.heap.size := by obtain ⟨m, hm⟩ := k0; exact DataW.trod_lt m _ _ _ hm
  obtain ⟨fuel0, hf0⟩ := h0
  obtain ⟨b0, w0, l0⟩ := open_steps hf0
  obtain ⟨b1, w1⟩ := open_deed (hval 1 25 v1 rfl rfl) h1
  have k1 := h1
  have lt1 : ∀ x ∈ p1, x.block < W.heap.size := by obtain ⟨m, hm⟩ := k1; exact DataW.trod_lt m _ _ _ hm
  obtain ⟨a2, rfl, rfl, rfl, w2⟩ := open_int Try.underlying3 (hval 2 3 v2 rfl rfl) h2
  have b2 := bounds_i64 w2
  clear hA0 hval0
  refine (arrayHalf_walk b0 _ b1 _ a2 W w0 w1 b2.1 b2.2).mono fun e W' ⟨he, bel⟩ => ?_
  subst he
  exact ⟨_, rfl, _, _, _, [], _, [], hW', trodAll_mk1 (shut_bool Try.underlying4 _), (trodAll_cons_mk (Below.trod laidOut (by kernel_rfl) (of_decide_eq_true (by kernel_rfl)) k0 bel lt0) (trodAll_cons_mk (Below.trod laidOut (by kernel_rfl) (of_decide_eq_true (by kernel_rfl)) k1 bel lt1) (trodAll_cons_mk (shut_int Try.underlying3 w2) trodAll_mk0))), rfl, bel.frame _, fun h => by cases h⟩
theorem over : Rows.arrayHalfRow.holds Try.pinned (OpenSpec.ofChange Rows.arrayHalfSpec) :=
  OpenClaim.holds_of_wide 7 Try.f7 rfl rfl rfl rfl rfl rfl rfl ⟨rfl, rfl, rfl, rfl, rfl⟩ rfl rfl rfl rfl rfl (by kernel_rfl) Try.func7 (by kernel_rfl)
    (of_decide_eq_true (by kernel_rfl)) (by unfold Func.isWrapper; first | (rw [if_pos (by decide +kernel)]; kernel_rfl) | (rw [if_neg (by decide +kernel)]; exact ⟨rfl, rfl⟩))
    (fun os started H enc _ => lifted os started H enc)
/-- The statement. -/
theorem proved : Rows.ArrayHalfSaid := over
end arrayHalfDone
end Go.Proofs.Ytoendmbgfbhidaa

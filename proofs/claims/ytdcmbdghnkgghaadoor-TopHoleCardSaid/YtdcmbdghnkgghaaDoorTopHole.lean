/- TopHole: the walk: for every input the call returns true. -/
import Derived.Test.YtdcmbdghnkgghaaDoorTopHoleF
namespace Go.Proofs.YtdcmbdghnkgghaaDoor
set_option linter.unusedVariables false
open Go Go.RowKit M
theorem rd_stF {w : World} {F : Fp} {n : Int} {d : Deed} {A : Option Addr} {c : Nat} (h : n ≤ 9223372036854775807) (hd : RdB w F (.slice A d.data.length c) d.data) : RdSt w F (.agg #[.int .i64 2, .int .i64 n, .int .i64 0, .int .i64 d.kind, .int .i64 d.n, .int .i64 d.m, .slice A d.data.length c]) (stF n d) := ⟨_, rfl, h, hd⟩
theorem getD_at {l : List Bs} {k : Nat} (h : k < l.length) : l[k] = l.getD k [] := by
  rw [List.getD_eq_getElem?_getD, List.getElem?_eq_getElem h]; rfl
theorem getD_far {l : List Bs} {k j : Nat} {x : Bs} (h : k ≠ j) : (l.set j x).getD k [] = l.getD k [] := by
  rw [List.getD_eq_getElem?_getD, List.getElem?_set_ne (Ne.symm h), ← List.getD_eq_getElem?_getD]
theorem l_len {l : List Bs} {d : Deed} (h : l = wantF ∨ l = doD wantF d) : l.length = 9 := by
  rcases h with rfl | rfl
  · rfl
  · exact doD_len wantF d rfl
theorem same_at {l : List Bs} {d : Deed} (hr : wrongI d = 0) (h : l = wantF ∨ l = doD wantF d) {k : Nat} (hk : k < 9) (hn : (k : Int) ≠ d.n) (hm : d.kind ≠ 2 ∨ (k : Int) ≠ d.m) : l.getD k [] = wantF.getD k [] := by
  rcases h with rfl | rfl
  · rfl
  · obtain ⟨⟨n0, n1⟩, hq⟩ := wrong_ok hr
    have hkn : k ≠ d.n.toNat := by omega
    unfold doD
    by_cases h1 : d.kind = 1
    · rw [if_pos h1, getD_far hkn]
    · rw [if_neg h1]
      have hkm : k ≠ d.m.toNat := by
        rcases hq with hq | hq
        · exact absurd hq.1 h1
        · have := hq.2.1.1
          rcases hm with hm | hm
          · exact absurd hq.1 hm
          · omega
      rw [getD_far hkm, getD_far hkn]
set_option maxRecDepth 100000 in
set_option maxHeartbeats 3200000 in
theorem topHole_walk (d : Deed) (vd : Value) (many gone : Int) (w : World) (hv : Vars w) (hd : RdD w (fun _ => True) vd d) (hm0 : -9223372036854775808 ≤ many) (hm1 : many ≤ 9223372036854775807) (_ : -9223372036854775808 ≤ gone) (_ : gone ≤ 9223372036854775807) :
    Calls Tryd.prog 6 #[vd, .int .i64 many, .int .i64 gone] w fun e w' => e = .returned (.bool true) ∧ Below w.heap.size w w' := by
  obtain ⟨dv, rfl, hdv⟩ := hd
  replace hdv := okB.lt hdv
  obtain ⟨Ad, cd, rfl, _, _⟩ := hdv.shape
  have hX0 := boxAt_new w 24 [.int .i64 d.kind, .int .i64 d.n, .int .i64 d.m, .slice Ad d.data.length cd]
  have hl1 := below_alloc w (.cells #[.int .i64 d.kind, .int .i64 d.n, .int .i64 d.m, .slice Ad d.data.length cd] 24)
  obtain ⟨wB, hwB⟩ : ∃ x, w.alloc (.cells #[.int .i64 d.kind, .int .i64 d.n, .int .i64 d.m, .slice Ad d.data.length cd] 24) = x := ⟨_, rfl⟩
  change BoxAt (w.alloc (.cells #[.int .i64 d.kind, .int .i64 d.n, .int .i64 d.m, .slice Ad d.data.length cd] 24)) _ _ _ at hX0
  rw [hwB] at hX0 hl1
  have HBd := Lib.hid hX0
  have HDd := Lib.hid (okB.mono (okB.grow hdv hl1) (F' := fun k => k < w.heap.size) fun k hk => hk.2)
  have HV := Lib.hid (hv.grow hl1)
  have HBel := Lib.hid hl1
  clear hv hX0 hl1 hdv
  go_enter Tryd.func6, Tryd.ntmps6
  go_wp2_with fail
  clear hwB
  refine (top_alive _ HV.out).mono ?_
  rintro e w0 ⟨rfl, hb⟩
  replace HBel := Lib.hid (HBel.out.trans (hb.mono HBel.out.size))
  replace HBd := Lib.hid (HBd.out.grow hb)
  replace HDd := Lib.hid (okB.grow HDd.out hb)
  replace HV := Lib.hid (HV.out.grow hb)
  clear hb
  obtain ⟨pHBd0, pHBd1, pHBd2, pHBd3⟩ := HBd.out.four
  go_wp2_with fail
  refine (model_Wrong d _ _ _ ⟨_, rfl, HDd.out⟩).mono ?_
  rintro e w1 ⟨rfl, hb⟩
  replace HBel := Lib.hid (HBel.out.trans (hb.mono HBel.out.size))
  replace HBd := Lib.hid (HBd.out.grow hb)
  replace HDd := Lib.hid (okB.grow HDd.out hb)
  replace HV := Lib.hid (HV.out.grow hb)
  clear hb pHBd0 pHBd1 pHBd2 pHBd3
  obtain ⟨pHBd0, pHBd1, pHBd2, pHBd3⟩ := HBd.out.four
  by_cases hr : wrongI d = 0
  rotate_left
  · have hne : (wrongI d != 0) = true := by simpa using hr
    go_wp2
    go_ret
    exact ⟨rfl, HBel.out⟩
  rw [hr]
  by_cases h1 : gone < 0
  · go_wp2
    go_ret
    exact ⟨rfl, HBel.out⟩
  by_cases h2 : 4 ≤ gone
  · go_wp2
    go_ret
    exact ⟨rfl, HBel.out⟩
  have HIN := Lib.hid (show 0 ≤ gone ∧ gone < 4 by omega)
  have HR := Lib.hid hr
  have HF := Lib.hid (hole_facts hr many HIN.out)
  have HG1 := Lib.hid (show Shape (stepP fullA (stF many d)).1.disks ∧ (stepP fullA (stF many d)).1.ints = [] from stepP_good full_good.1 full_good.2 (stF many d))
  have e1 : decide (gone < 0) = false := by simpa using h1
  have e2 : decide (4 ≤ gone) = false := by simpa using h2
  clear hr
  go_wp2_with fail
  clear h1 h2 e1 e2
  refine (top_full _ HV.out).mono ?_
  rintro e waA ⟨vA, uF, rfl, hr, hu, hb⟩
  have hdA : w.heap.size < waA.heap.size := Nat.lt_of_lt_of_le HBd.out.lt hb.size
  obtain ⟨Aw, cw, rfl, _, _⟩ := hu.shape
  rw [show wantF.length = 9 from rfl] at hu ⊢
  obtain ⟨bA, oA, cA, AA, dA, rfl, _, _, hcA, hmA⟩ := RdA_open hr full_good.1
  rw [show fullA.ints.length = 0 by rw [full_good.2]; rfl] at hr ⊢
  have ord0A : w.heap.size ≤ waA.heap.size := Nat.le_trans HBel.out.size hb.size
  have hal := below_alloc waA (.cells #[.slice (some ⟨bA, oA, none⟩) 4 cA, .slice AA 0 dA] 37)
  have hX := boxAt_new waA 37 [.slice (some ⟨bA, oA, none⟩) 4 cA, .slice AA 0 dA]
  have hbb := hb.trans (hal.mono hb.size)
  have hrl := hr.lt.mono (F' := fun k => w.heap.size ≤ k ∧ k < waA.heap.size) fun k hk => by have := HBel.out.size;  omega
  have HRdA := Lib.hid (hrl.grow hal)
  replace HBel := Lib.hid (HBel.out.trans (hbb.mono HBel.out.size))
  replace HBd := Lib.hid (HBd.out.grow hbb)
  replace HDd := Lib.hid (okB.grow HDd.out hbb)
  clear pHBd0 pHBd1 pHBd2 pHBd3
  have HW := Lib.hid (okBB.mono (okBB.grow (okBB.lt hu) hal) (F' := fun k => k < waA.heap.size) fun k hk => hk.2)
  obtain ⟨wA, hwA⟩ : ∃ x, waA.alloc (.cells #[.slice (some ⟨bA, oA, none⟩) 4 cA, .slice AA 0 dA] 37) = x := ⟨_, rfl⟩
  change BoxAt (waA.alloc (.cells #[.slice (some ⟨bA, oA, none⟩) 4 cA, .slice AA 0 dA] 37)) _ _ _ at hX
  rw [hwA] at hX HRdA HBel   HBd HDd HW
  have HBxA := Lib.hid hX
  clear hal hX hbb hr hb hrl
  obtain ⟨pA0, pA1, pA2, pA3⟩ := HBxA.out.two
  obtain ⟨pHBd0, pHBd1, pHBd2, pHBd3⟩ := HBd.out.four
  go_wp2_with fail
  clear hwA
  clear hu
  refine (play_Do fullA (stF many d) _ _ _ _ HRdA.out (rd_stF hm1 HDd.out) full_good.1 full_good.2 hm0).mono ?_
  rintro e z1 ⟨v, rfl, hr, hb⟩
  rw [HF.out.1]
  obtain ⟨bz1, oz1, cz1, Az1, dz1, rfl, _, _, hcz1, hmz1⟩ := RdA_open hr HG1.out.1
  rw [show (stepP fullA (stF many d)).1.ints.length = 0 by rw [HG1.out.2]; rfl] at hr ⊢
  have hsA := HBxA.out.lt
  have hrl := hr.lt
  replace HBxA := Lib.hid (HBxA.out.grow hb)
  replace HRdA := Lib.hid (HRdA.out.grow hb)
  replace HBel := Lib.hid (HBel.out.trans (hb.mono HBel.out.size))
  replace HBd := Lib.hid (HBd.out.grow hb)
  replace HDd := Lib.hid (okB.grow HDd.out hb)
  replace HW := Lib.hid (okBB.grow HW.out hb)
  clear pA0 pA1 pA2 pA3 pHBd0 pHBd1 pHBd2 pHBd3
  obtain ⟨q0, q1, q2, q3⟩ := HBxA.out.two
  have g0 : BoxAt (set2 z1 waA.heap.size (.slice (some ⟨bz1, oz1, none⟩) 4 cz1) (.slice Az1 0 dz1)) _ _ _ := HBxA.out.put2
  have rn : RdA (set2 z1 waA.heap.size (.slice (some ⟨bz1, oz1, none⟩) 4 cz1) (.slice Az1 0 dz1)) (fun k => waA.heap.size < k) _ _ := (hrl.mono (F' := fun k => waA.heap.size < k) fun k hk => by omega).set2 (b := waA.heap.size) (fun k hk => by omega)
  have eHBd := (show BoxAt (set2 z1 waA.heap.size (.slice (some ⟨bz1, oz1, none⟩) 4 cz1) (.slice Az1 0 dz1)) _ _ _ from HBd.out.far2 (by omega))
  have eHDd := (show RdB (set2 z1 waA.heap.size (.slice (some ⟨bz1, oz1, none⟩) 4 cz1) (.slice Az1 0 dz1)) _ _ _ from okB.set2 HDd.out (b := waA.heap.size) (fun k hk => by omega))
  have eHW := (show RdBB (set2 z1 waA.heap.size (.slice (some ⟨bz1, oz1, none⟩) 4 cz1) (.slice Az1 0 dz1)) _ _ _ from okBB.set2 HW.out (b := waA.heap.size) (fun k hk => by omega))
  have gb := HBel.out.trans (below_set2 (w := z1) (b := waA.heap.size) (v0 := .slice (some ⟨bz1, oz1, none⟩) 4 cz1) (v1 := .slice Az1 0 dz1) (by omega))
  obtain ⟨wz1, hwz1⟩ : ∃ x, set2 z1 waA.heap.size (.slice (some ⟨bz1, oz1, none⟩) 4 cz1) (.slice Az1 0 dz1) = x := ⟨_, rfl⟩
  rw [hwz1] at g0 eHBd eHDd eHW rn gb
  change (z1.setCell ⟨waA.heap.size, 0, none⟩ (.slice (some ⟨bz1, oz1, none⟩) 4 cz1)).setCell ⟨waA.heap.size, 1, none⟩ (.slice Az1 0 dz1) = wz1 at hwz1
  replace HBxA := Lib.hid g0
  replace HRdA := Lib.hid rn
  replace HBd := Lib.hid eHBd
  replace HDd := Lib.hid eHDd
  replace HW := Lib.hid eHW
  replace HBel := Lib.hid gb
  clear hr hrl hb g0 eHBd eHDd eHW rn gb hsA
  obtain ⟨pA0, pA1, pA2, pA3⟩ := HBxA.out.two
  obtain ⟨pHBd0, pHBd1, pHBd2, pHBd3⟩ := HBd.out.four
  have HF2 := Lib.hid HF.out.2
  clear HF
  generalize (stepP fullA (stF many d)).1 = a1 at *
  obtain ⟨l, hl1, hl2⟩ := HF2.out
  have HL1 := Lib.hid hl1
  have HL2 := Lib.hid hl2
  clear HF2 hl1 hl2
  go_wp2_with fail
  have HG2 := Lib.hid (show Shape (goneA a1 gone).1.disks ∧ (goneA a1 gone).1.ints = [] from stepP_good HG1.out.1 HG1.out.2 (stG gone))
  refine (play_Do a1 (stG gone) _ _ _ _ HRdA.out (rd_stG _ (by have := HIN.out; omega)) HG1.out.1 HG1.out.2 (by have := HIN.out; show -9223372036854775808 ≤ gone; omega)).mono ?_
  rintro e z2 ⟨v, rfl, hr, hb⟩
  rw [stepP_gone] at hr ⊢
  rw [gone_ok _ HIN.out]
  obtain ⟨bz2, oz2, cz2, Az2, dz2, rfl, _, _, hcz2, hmz2⟩ := RdA_open hr HG2.out.1
  rw [show (goneA a1 gone).1.ints.length = 0 by rw [HG2.out.2]; rfl] at hr ⊢
  have hsA := HBxA.out.lt
  have hrl := hr.lt
  replace HBxA := Lib.hid (HBxA.out.grow hb)
  replace HRdA := Lib.hid (HRdA.out.grow hb)
  replace HBel := Lib.hid (HBel.out.trans (hb.mono HBel.out.size))
  replace HBd := Lib.hid (HBd.out.grow hb)
  replace HDd := Lib.hid (okB.grow HDd.out hb)
  replace HW := Lib.hid (okBB.grow HW.out hb)
  clear pA0 pA1 pA2 pA3 pHBd0 pHBd1 pHBd2 pHBd3
  obtain ⟨q0, q1, q2, q3⟩ := HBxA.out.two
  have g0 : BoxAt (set2 z2 waA.heap.size (.slice (some ⟨bz2, oz2, none⟩) 4 cz2) (.slice Az2 0 dz2)) _ _ _ := HBxA.out.put2
  have rn : RdA (set2 z2 waA.heap.size (.slice (some ⟨bz2, oz2, none⟩) 4 cz2) (.slice Az2 0 dz2)) (fun k => waA.heap.size < k) _ _ := (hrl.mono (F' := fun k => waA.heap.size < k) fun k hk => by omega).set2 (b := waA.heap.size) (fun k hk => by omega)
  have eHBd := (show BoxAt (set2 z2 waA.heap.size (.slice (some ⟨bz2, oz2, none⟩) 4 cz2) (.slice Az2 0 dz2)) _ _ _ from HBd.out.far2 (by omega))
  have eHDd := (show RdB (set2 z2 waA.heap.size (.slice (some ⟨bz2, oz2, none⟩) 4 cz2) (.slice Az2 0 dz2)) _ _ _ from okB.set2 HDd.out (b := waA.heap.size) (fun k hk => by omega))
  have eHW := (show RdBB (set2 z2 waA.heap.size (.slice (some ⟨bz2, oz2, none⟩) 4 cz2) (.slice Az2 0 dz2)) _ _ _ from okBB.set2 HW.out (b := waA.heap.size) (fun k hk => by omega))
  have gb := HBel.out.trans (below_set2 (w := z2) (b := waA.heap.size) (v0 := .slice (some ⟨bz2, oz2, none⟩) 4 cz2) (v1 := .slice Az2 0 dz2) (by omega))
  obtain ⟨wz2, hwz2⟩ : ∃ x, set2 z2 waA.heap.size (.slice (some ⟨bz2, oz2, none⟩) 4 cz2) (.slice Az2 0 dz2) = x := ⟨_, rfl⟩
  rw [hwz2] at g0 eHBd eHDd eHW rn gb
  change (z2.setCell ⟨waA.heap.size, 0, none⟩ (.slice (some ⟨bz2, oz2, none⟩) 4 cz2)).setCell ⟨waA.heap.size, 1, none⟩ (.slice Az2 0 dz2) = wz2 at hwz2
  replace HBxA := Lib.hid g0
  replace HRdA := Lib.hid rn
  replace HBd := Lib.hid eHBd
  replace HDd := Lib.hid eHDd
  replace HW := Lib.hid eHW
  replace HBel := Lib.hid gb
  clear hr hrl hb g0 eHBd eHDd eHW rn gb hsA
  obtain ⟨pA0, pA1, pA2, pA3⟩ := HBxA.out.two
  obtain ⟨pHBd0, pHBd1, pHBd2, pHBd3⟩ := HBd.out.four
  go_wp2_with fail
  clear hwz2 q0 q1 q2 q3
  refine (array_Blocks (goneA a1 gone).1 _ _ _ HRdA.out HG2.out.1).mono ?_
  rintro e wb ⟨vb, rfl, hrb, hb⟩
  rw [HL1.out] at hrb ⊢
  obtain ⟨Ab, cb, rfl, _, _⟩ := hrb.shape
  rw [l_len HL2.out] at hrb ⊢
  replace HBxA := Lib.hid (HBxA.out.grow hb)
  replace HRdA := Lib.hid (HRdA.out.grow hb)
  replace HBel := Lib.hid (HBel.out.trans (hb.mono HBel.out.size))
  replace HBd := Lib.hid (HBd.out.grow hb)
  replace HDd := Lib.hid (okB.grow HDd.out hb)
  replace HW := Lib.hid (okBB.grow HW.out hb)
  clear pA0 pA1 pA2 pA3 pHBd0 pHBd1 pHBd2 pHBd3
  have HVB := Lib.hid (okBB.mono hrb (F' := fun _ => True) fun _ _ => trivial)
  clear hrb hb
  obtain ⟨pA0, pA1, pA2, pA3⟩ := HBxA.out.two
  obtain ⟨pHBd0, pHBd1, pHBd2, pHBd3⟩ := HBd.out.four
  go_wp2_with fail
  clear pA0 pA1 pA2 pA3 pHBd0 pHBd1 pHBd2 pHBd3
  clear HG1 HG2 HL1
  unfold maxLen at *
  go_loopw [70] (fun i wr => ∃ k : Nat, k ≤ 9 ∧ i = .int .i64 k ∧ Below wb.heap.size wb wr) (fun i _ => 9 - (intOf i).toNat)
  case atStart => exact ⟨0, Nat.zero_le _, rfl, Below.refl _ _⟩
  case round =>
    obtain ⟨k, hk, rfl, hlw⟩ := hrel
    have HLW := Lib.hid hlw
    clear hlw
    by_cases hlt : k < 9
    rotate_left
    · obtain rfl : k = 9 := by omega
      have HW2 := Lib.hid (okBB.mono (okBB.grow HW.out HLW.out) (F' := fun _ => True) fun _ _ => trivial)
      have HVB2 := Lib.hid (okBB.grow HVB.out HLW.out)
      have HDd2 := Lib.hid (okB.mono (okB.grow HDd.out HLW.out) (F' := fun _ => True) fun _ _ => trivial)
      have HBd2 := Lib.hid (HBd.out.grow HLW.out)
      have HB2 := Lib.hid (HBel.out.trans (HLW.out.mono HBel.out.size))
      clear HBxA HRdA
      obtain ⟨pHBd0, pHBd1, pHBd2, pHBd3⟩ := HBd2.out.four
      go_wp2_with fail
      refine (model_Same l wantF _ _ _ _ HVB2.out HW2.out).mono ?_
      rintro e ws ⟨rfl, hb⟩
      have HW3 := Lib.hid (okBB.grow HW2.out hb)
      have HVB3 := Lib.hid (okBB.grow HVB2.out hb)
      have HDd3 := Lib.hid (okB.grow HDd2.out hb)
      have HB3 := Lib.hid (HB2.out.trans (hb.mono HB2.out.size))
      have HBd3 := Lib.hid (HBd2.out.grow hb)
      clear pHBd0 pHBd1 pHBd2 pHBd3 hb
      obtain ⟨pHBd0, pHBd1, pHBd2, pHBd3⟩ := HBd3.out.four
      cases heq : (l == wantF) with
      | true =>
        go_wp2
        go_ret
        exact ⟨rfl, HB3.out⟩
      | false =>
        have hll : l = doD wantF d := by
          rcases HL2.out with h | h
          · rw [h, beq_self_eq_true] at heq
            cases heq
          · exact h
        have HLL := Lib.hid hll
        clear hll heq
        go_wp2_with fail
        refine (model_Do wantF d _ _ _ _ HW3.out ⟨_, rfl, HDd3.out⟩ rfl HR.out).mono ?_
        rintro e wd ⟨vd, rfl, hvd, hb⟩
        have hrd := okBB.mono (hvd.toRd_ okB) (F' := fun _ => True) fun _ _ => trivial
        rw [← HLL.out] at hrd
        obtain ⟨Ad3, cd3, rfl, _, _⟩ := hrd.shape
        have HRD := Lib.hid hrd
        have HVB4 := Lib.hid (okBB.grow HVB3.out hb)
        have HB4 := Lib.hid (HB3.out.trans (hb.mono HB3.out.size))
        clear hvd hrd hb pHBd0 pHBd1 pHBd2 pHBd3
        go_wp2_with fail
        refine (model_Same l l _ _ _ _ HVB4.out HRD.out).mono ?_
        rintro e wf ⟨rfl, hb⟩
        rw [beq_self_eq_true]
        have HB5 := Lib.hid (HB4.out.trans (hb.mono HB4.out.size))
        clear hb
        go_wp2
        go_ret
        exact ⟨rfl, HB5.out⟩
    have hbk : decide ((k : Int) < 9) = true := by simp; omega
    have h9 : (k : Int) < 9 := by omega
    have hll := l_len HL2.out
    have hy := RdL.at_ (okBB.grow HVB.out HLW.out) (k := k) (by omega)
    rw [show l[k]'(by omega) = l.getD k [] from getD_at _] at hy
    obtain ⟨bl, ol, uy, rfl, _, hcy, huy⟩ := hy
    obtain ⟨Ay, cy, rfl, _, _⟩ := RdL.shape huy
    have HY := Lib.hid huy
    have HCY := Lib.hid hcy
    have hx := RdL.at_ (okBB.grow HW.out HLW.out) (k := k) hlt
    rw [show wantF[k]'hlt = wantF.getD k [] from getD_at hlt] at hx
    obtain ⟨bw, ow, ux, rfl, _, hcx, hux⟩ := hx
    obtain ⟨Ax, cx, rfl, _, _⟩ := RdL.shape hux
    have HX := Lib.hid hux
    have HCX := Lib.hid hcx
    have HS := Lib.hid (fun (h : (k : Int) ≠ d.n) => same_at HR.out HL2.out hlt h)
    have HBd2 := Lib.hid (HBd.out.grow HLW.out)
    clear huy hux hll hcx
    generalize l.getD k [] = y at *
    generalize wantF.getD k [] = x at *
    obtain ⟨pHBd0, pHBd1, pHBd2, pHBd3⟩ := HBd2.out.four
    go_wp2_with fail
    clear hcy
    by_cases hkn : (k : Int) = d.n
    · have HKN := Lib.hid hkn
      clear hkn
      refine region_list [Cv (.int .i64 k), Cv (.pointer (some ⟨w.heap.size, 1, none⟩)), Cv (.int .i64 d.n), Cv (.bool false), Cv (.bool false), Cv (undef), Cv (undef), Cv (undef), Cv (undef), Cv (undef), Cv (undef), Cv (undef), Cv (undef), Cv (undef), Cv (.bool false), Cv (.bool false), Cv (undef), Cv (undef), Cv (undef), Cv (undef), Cv (undef), Cv (undef), Cv (undef), Cv (undef), Cv (.bool false)] (by kernel_rfl) (by kernel_rfl) (by kernel_rfl) ?_ ?_ ?_
      · repeat (first | exact trivial | refine ⟨mC _, ?_⟩ | refine ⟨mR okB _, ?_⟩ | refine ⟨mT, ?_⟩ | refine ⟨mR okBB _, ?_⟩ | refine ⟨mR okBBB _, ?_⟩ | refine ⟨mR (okL okI) _, ?_⟩ | refine ⟨mKt _, ?_⟩ | refine ⟨mRa _ _, ?_⟩)
      · simp only [StepsL]
        refine ⟨?_, ?_, ?_, ?_, ?_, ?_, ?_, ?_, ?_, ?_, ?_, ?_, ?_, ?_, ?_, ?_, ?_, ?_, ?_, ?_, ?_, ?_, ?_, ?_, ?_, trivial⟩
        · intro ys wx hw hd K hK
          simp only [putL, Act.put, List.setIfInBounds_toArray, List.set_cons_zero, List.set_cons_succ, Nat.zero_add, Nat.reduceAdd] at hK ⊢
          rw [if_pos (by rfl)]
          go_simp
          exact hK _ _ (Below.refl _ _) rfl
        · intro ys wx hw hd K hK
          simp only [putL, Act.put, List.setIfInBounds_toArray, List.set_cons_zero, List.set_cons_succ, Nat.zero_add, Nat.reduceAdd] at hK ⊢
          rw [if_pos (by rfl)]
          go_simp
          exact hK _ _ (Below.refl _ _) rfl
        · intro ys wx hw hd K hK
          have e1 : ys 1 = _ := hd 1 (by decide)
          simp only [putL, Act.put, List.setIfInBounds_toArray, List.set_cons_zero, List.set_cons_succ, Nat.zero_add, Nat.reduceAdd, e1] at hK ⊢
          rw [if_pos (by rfl)]
          obtain ⟨kb0, kb1, kb2, kb3⟩ := (BoxAt.four (HBd2.out.keep hw HBd2.out.lt))
          go_simp
          exact hK _ _ (Below.refl _ _) rfl
        · intro ys wx hw hd K hK
          have e0 : ys 0 = _ := hd 0 (by decide)
          have e2 : ys 2 = _ := hd 2 (by decide)
          simp only [putL, Act.put, List.setIfInBounds_toArray, List.set_cons_zero, List.set_cons_succ, Nat.zero_add, Nat.reduceAdd, e0, e2] at hK ⊢
          rw [if_pos (by rfl)]
          have q0 : ((k : Int) != d.n) = false := by have := HKN.out; simpa using this
          go_simp
          exact hK _ _ (Below.refl _ _) rfl
        · intro ys wx hw hd K hK
          have e3 : ys 3 = _ := hd 3 (by decide)
          simp only [putL, Act.put, List.setIfInBounds_toArray, List.set_cons_zero, List.set_cons_succ, Nat.zero_add, Nat.reduceAdd, e3] at hK ⊢
          rw [if_pos (by rfl)]
          go_simp
          exact hK _ _ (Below.refl _ _) rfl
        · intro ys wx hw hd K hK
          have e4 : ys 4 = _ := hd 4 (by decide)
          simp only [putL, Act.put, List.setIfInBounds_toArray, List.set_cons_zero, List.set_cons_succ, Nat.zero_add, Nat.reduceAdd, e4] at hK ⊢
          rw [if_neg (by exact Bool.false_ne_true)]
          exact hK _ _ (Below.refl _ _) rfl
        · intro ys wx hw hd K hK
          have e4 : ys 4 = _ := hd 4 (by decide)
          have e5 : ys 5 = _ := hd 5 (by decide)
          simp only [putL, Act.put, List.setIfInBounds_toArray, List.set_cons_zero, List.set_cons_succ, Nat.zero_add, Nat.reduceAdd, e4, e5] at hK ⊢
          rw [if_neg (by exact Bool.false_ne_true)]
          exact hK _ _ (Below.refl _ _) rfl
        · intro ys wx hw hd K hK
          have e4 : ys 4 = _ := hd 4 (by decide)
          have e6 : ys 6 = _ := hd 6 (by decide)
          simp only [putL, Act.put, List.setIfInBounds_toArray, List.set_cons_zero, List.set_cons_succ, Nat.zero_add, Nat.reduceAdd, e4, e6] at hK ⊢
          rw [if_neg (by exact Bool.false_ne_true)]
          exact hK _ _ (Below.refl _ _) rfl
        · intro ys wx hw hd K hK
          have e4 : ys 4 = _ := hd 4 (by decide)
          have e7 : ys 7 = _ := hd 7 (by decide)
          simp only [putL, Act.put, List.setIfInBounds_toArray, List.set_cons_zero, List.set_cons_succ, Nat.zero_add, Nat.reduceAdd, e4, e7] at hK ⊢
          rw [if_neg (by exact Bool.false_ne_true)]
          exact hK _ _ (Below.refl _ _) rfl
        · intro ys wx hw hd K hK
          have e8 : ys 8 = _ := hd 8 (by decide)
          simp only [putL, Act.put, List.setIfInBounds_toArray, List.set_cons_zero, List.set_cons_succ, Nat.zero_add, Nat.reduceAdd, e8] at hK ⊢
          rw [if_neg (by exact Bool.false_ne_true)]
          exact hK _ _ (Below.refl _ _) rfl
        · intro ys wx hw hd K hK
          have e8 : ys 8 = _ := hd 8 (by decide)
          simp only [putL, Act.put, List.setIfInBounds_toArray, List.set_cons_zero, List.set_cons_succ, Nat.zero_add, Nat.reduceAdd, e8] at hK ⊢
          rw [if_neg (by exact Bool.false_ne_true)]
          exact hK _ _ (Below.refl _ _) rfl
        · intro ys wx hw hd K hK
          have e8 : ys 8 = _ := hd 8 (by decide)
          have e10 : ys 10 = _ := hd 10 (by decide)
          simp only [putL, Act.put, List.setIfInBounds_toArray, List.set_cons_zero, List.set_cons_succ, Nat.zero_add, Nat.reduceAdd, e8, e10] at hK ⊢
          rw [if_neg (by exact Bool.false_ne_true)]
          exact hK _ _ (Below.refl _ _) rfl
        · intro ys wx hw hd K hK
          have e8 : ys 8 = _ := hd 8 (by decide)
          have e9 : ys 9 = _ := hd 9 (by decide)
          have e11 : ys 11 = _ := hd 11 (by decide)
          simp only [putL, Act.put, List.setIfInBounds_toArray, List.set_cons_zero, List.set_cons_succ, Nat.zero_add, Nat.reduceAdd, e8, e9, e11] at hK ⊢
          rw [if_neg (by exact Bool.false_ne_true)]
          exact hK _ _ (Below.refl _ _) rfl
        · intro ys wx hw hd K hK
          have e4 : ys 4 = _ := hd 4 (by decide)
          have e8 : ys 8 = _ := hd 8 (by decide)
          have e12 : ys 12 = _ := hd 12 (by decide)
          simp only [putL, Act.put, List.setIfInBounds_toArray, List.set_cons_zero, List.set_cons_succ, Nat.zero_add, Nat.reduceAdd, e4, e8, e12] at hK ⊢
          rw [if_neg (by exact Bool.false_ne_true)]
          exact hK _ _ (Below.refl _ _) rfl
        · intro ys wx hw hd K hK
          have e4 : ys 4 = _ := hd 4 (by decide)
          have e13 : ys 13 = _ := hd 13 (by decide)
          simp only [putL, Act.put, List.setIfInBounds_toArray, List.set_cons_zero, List.set_cons_succ, Nat.zero_add, Nat.reduceAdd, e4, e13] at hK ⊢
          rw [if_pos (by rfl)]
          go_simp
          exact hK _ _ (Below.refl _ _) rfl
        · intro ys wx hw hd K hK
          have e14 : ys 14 = _ := hd 14 (by decide)
          simp only [putL, Act.put, List.setIfInBounds_toArray, List.set_cons_zero, List.set_cons_succ, Nat.zero_add, Nat.reduceAdd, e14] at hK ⊢
          rw [if_pos (by rfl)]
          go_simp
          exact hK _ _ (Below.refl _ _) rfl
        · intro ys wx hw hd K hK
          have e15 : ys 15 = _ := hd 15 (by decide)
          simp only [putL, Act.put, List.setIfInBounds_toArray, List.set_cons_zero, List.set_cons_succ, Nat.zero_add, Nat.reduceAdd, e15] at hK ⊢
          rw [if_neg (by exact Bool.false_ne_true)]
          exact hK _ _ (Below.refl _ _) rfl
        · intro ys wx hw hd K hK
          have e15 : ys 15 = _ := hd 15 (by decide)
          have e16 : ys 16 = _ := hd 16 (by decide)
          simp only [putL, Act.put, List.setIfInBounds_toArray, List.set_cons_zero, List.set_cons_succ, Nat.zero_add, Nat.reduceAdd, e15, e16] at hK ⊢
          rw [if_neg (by exact Bool.false_ne_true)]
          exact hK _ _ (Below.refl _ _) rfl
        · intro ys wx hw hd K hK
          have e15 : ys 15 = _ := hd 15 (by decide)
          simp only [putL, Act.put, List.setIfInBounds_toArray, List.set_cons_zero, List.set_cons_succ, Nat.zero_add, Nat.reduceAdd, e15] at hK ⊢
          rw [if_neg (by exact Bool.false_ne_true)]
          exact hK _ _ (Below.refl _ _) rfl
        · intro ys wx hw hd K hK
          have e15 : ys 15 = _ := hd 15 (by decide)
          simp only [putL, Act.put, List.setIfInBounds_toArray, List.set_cons_zero, List.set_cons_succ, Nat.zero_add, Nat.reduceAdd, e15] at hK ⊢
          rw [if_neg (by exact Bool.false_ne_true)]
          exact hK _ _ (Below.refl _ _) rfl
        · intro ys wx hw hd K hK
          have e15 : ys 15 = _ := hd 15 (by decide)
          have e18 : ys 18 = _ := hd 18 (by decide)
          have e19 : ys 19 = _ := hd 19 (by decide)
          simp only [putL, Act.put, List.setIfInBounds_toArray, List.set_cons_zero, List.set_cons_succ, Nat.zero_add, Nat.reduceAdd, e15, e18, e19] at hK ⊢
          rw [if_neg (by exact Bool.false_ne_true)]
          exact hK _ _ (Below.refl _ _) rfl
        · intro ys wx hw hd K hK
          have e15 : ys 15 = _ := hd 15 (by decide)
          have e20 : ys 20 = _ := hd 20 (by decide)
          simp only [putL, Act.put, List.setIfInBounds_toArray, List.set_cons_zero, List.set_cons_succ, Nat.zero_add, Nat.reduceAdd, e15, e20] at hK ⊢
          rw [if_neg (by exact Bool.false_ne_true)]
          exact hK _ _ (Below.refl _ _) rfl
        · intro ys wx hw hd K hK
          have e15 : ys 15 = _ := hd 15 (by decide)
          have e21 : ys 21 = _ := hd 21 (by decide)
          simp only [putL, Act.put, List.setIfInBounds_toArray, List.set_cons_zero, List.set_cons_succ, Nat.zero_add, Nat.reduceAdd, e15, e21] at hK ⊢
          rw [if_neg (by exact Bool.false_ne_true)]
          exact hK _ _ (Below.refl _ _) rfl
        · intro ys wx hw hd K hK
          have e15 : ys 15 = _ := hd 15 (by decide)
          have e17 : ys 17 = _ := hd 17 (by decide)
          have e22 : ys 22 = _ := hd 22 (by decide)
          simp only [putL, Act.put, List.setIfInBounds_toArray, List.set_cons_zero, List.set_cons_succ, Nat.zero_add, Nat.reduceAdd, e15, e17, e22] at hK ⊢
          rw [if_neg (by exact Bool.false_ne_true)]
          exact hK _ _ (Below.refl _ _) rfl
        · intro ys wx hw hd K hK
          have e15 : ys 15 = _ := hd 15 (by decide)
          have e23 : ys 23 = _ := hd 23 (by decide)
          simp only [putL, Act.put, List.setIfInBounds_toArray, List.set_cons_zero, List.set_cons_succ, Nat.zero_add, Nat.reduceAdd, e15, e23] at hK ⊢
          rw [if_pos (by rfl)]
          go_simp
          exact hK _ _ (Below.refl _ _) rfl
      · intro ys w' hl' hV
        have e24 : ys 24 = _ := hV 24 (by decide)
        clear hV
        simp only [putL, Act.put, List.setIfInBounds_toArray, List.set_cons_zero, List.set_cons_succ, Nat.zero_add, Nat.reduceAdd, e24]
        clear e24
        replace HLW := Lib.hid (HLW.out.trans (hl'.mono HLW.out.size))
        clear hl'
        go_wp2
        go_roundw
        case rel => exact ⟨k + 1, by omega, by go_num, HLW.out⟩
        case measure => simp [intOf]; omega
    have HKN := Lib.hid hkn
    clear hkn
    by_cases hk2 : d.kind = 2
    rotate_left
    · obtain rfl : y = x := HS.out HKN.out (.inl hk2)
      have HK2 := Lib.hid hk2
      clear hk2
      refine region_list [Cv (.int .i64 k), Cv (.pointer (some ⟨w.heap.size, 1, none⟩)), Cv (.int .i64 d.n), Cv (.bool true), Cv (.bool true), Cv (.pointer (some ⟨w.heap.size, 0, none⟩)), Cv (.int .i64 d.kind), Cv (.bool true), Cv (.bool true), Cv (undef), Cv (undef), Cv (undef), Cv (undef), Cv (.bool true), Cv (.bool true), Cv (.bool true), Cv (.slice Ay y.length cy), Cv (.string (strB y)), Cv (.slice (some ⟨bw, ow, none⟩) 9 cw), Cv (.int .i64 k), Cv (.pointer (some ⟨bw, ow + k, none⟩)), Cv (.slice Ax y.length cx), Cv (.string (strB y)), Cv (.bool false), Cv (.bool false)] (by kernel_rfl) (by kernel_rfl) (by kernel_rfl) ?_ ?_ ?_
      · repeat (first | exact trivial | refine ⟨mC _, ?_⟩ | refine ⟨mR okB _, ?_⟩ | refine ⟨mT, ?_⟩ | refine ⟨mR okBB _, ?_⟩ | refine ⟨mR okBBB _, ?_⟩ | refine ⟨mR (okL okI) _, ?_⟩ | refine ⟨mKt _, ?_⟩ | refine ⟨mRa _ _, ?_⟩)
      · simp only [StepsL]
        refine ⟨?_, ?_, ?_, ?_, ?_, ?_, ?_, ?_, ?_, ?_, ?_, ?_, ?_, ?_, ?_, ?_, ?_, ?_, ?_, ?_, ?_, ?_, ?_, ?_, ?_, trivial⟩
        · intro ys wx hw hd K hK
          simp only [putL, Act.put, List.setIfInBounds_toArray, List.set_cons_zero, List.set_cons_succ, Nat.zero_add, Nat.reduceAdd] at hK ⊢
          rw [if_pos (by rfl)]
          go_simp
          exact hK _ _ (Below.refl _ _) rfl
        · intro ys wx hw hd K hK
          simp only [putL, Act.put, List.setIfInBounds_toArray, List.set_cons_zero, List.set_cons_succ, Nat.zero_add, Nat.reduceAdd] at hK ⊢
          rw [if_pos (by rfl)]
          go_simp
          exact hK _ _ (Below.refl _ _) rfl
        · intro ys wx hw hd K hK
          have e1 : ys 1 = _ := hd 1 (by decide)
          simp only [putL, Act.put, List.setIfInBounds_toArray, List.set_cons_zero, List.set_cons_succ, Nat.zero_add, Nat.reduceAdd, e1] at hK ⊢
          rw [if_pos (by rfl)]
          obtain ⟨kb0, kb1, kb2, kb3⟩ := (BoxAt.four (HBd2.out.keep hw HBd2.out.lt))
          go_simp
          exact hK _ _ (Below.refl _ _) rfl
        · intro ys wx hw hd K hK
          have e0 : ys 0 = _ := hd 0 (by decide)
          have e2 : ys 2 = _ := hd 2 (by decide)
          simp only [putL, Act.put, List.setIfInBounds_toArray, List.set_cons_zero, List.set_cons_succ, Nat.zero_add, Nat.reduceAdd, e0, e2] at hK ⊢
          rw [if_pos (by rfl)]
          have q0 : ((k : Int) != d.n) = true := by have := HKN.out; simpa using this
          go_simp
          exact hK _ _ (Below.refl _ _) rfl
        · intro ys wx hw hd K hK
          have e3 : ys 3 = _ := hd 3 (by decide)
          simp only [putL, Act.put, List.setIfInBounds_toArray, List.set_cons_zero, List.set_cons_succ, Nat.zero_add, Nat.reduceAdd, e3] at hK ⊢
          rw [if_pos (by rfl)]
          go_simp
          exact hK _ _ (Below.refl _ _) rfl
        · intro ys wx hw hd K hK
          have e4 : ys 4 = _ := hd 4 (by decide)
          simp only [putL, Act.put, List.setIfInBounds_toArray, List.set_cons_zero, List.set_cons_succ, Nat.zero_add, Nat.reduceAdd, e4] at hK ⊢
          rw [if_pos (by rfl)]
          go_simp
          exact hK _ _ (Below.refl _ _) rfl
        · intro ys wx hw hd K hK
          have e4 : ys 4 = _ := hd 4 (by decide)
          have e5 : ys 5 = _ := hd 5 (by decide)
          simp only [putL, Act.put, List.setIfInBounds_toArray, List.set_cons_zero, List.set_cons_succ, Nat.zero_add, Nat.reduceAdd, e4, e5] at hK ⊢
          rw [if_pos (by rfl)]
          obtain ⟨kb0, kb1, kb2, kb3⟩ := (BoxAt.four (HBd2.out.keep hw HBd2.out.lt))
          go_simp
          exact hK _ _ (Below.refl _ _) rfl
        · intro ys wx hw hd K hK
          have e4 : ys 4 = _ := hd 4 (by decide)
          have e6 : ys 6 = _ := hd 6 (by decide)
          simp only [putL, Act.put, List.setIfInBounds_toArray, List.set_cons_zero, List.set_cons_succ, Nat.zero_add, Nat.reduceAdd, e4, e6] at hK ⊢
          rw [if_pos (by rfl)]
          have q0 : (d.kind != 2) = true := by have := HK2.out; simpa using this
          go_simp
          exact hK _ _ (Below.refl _ _) rfl
        · intro ys wx hw hd K hK
          have e4 : ys 4 = _ := hd 4 (by decide)
          have e7 : ys 7 = _ := hd 7 (by decide)
          simp only [putL, Act.put, List.setIfInBounds_toArray, List.set_cons_zero, List.set_cons_succ, Nat.zero_add, Nat.reduceAdd, e4, e7] at hK ⊢
          rw [if_pos (by rfl)]
          go_simp
          exact hK _ _ (Below.refl _ _) rfl
        · intro ys wx hw hd K hK
          have e8 : ys 8 = _ := hd 8 (by decide)
          simp only [putL, Act.put, List.setIfInBounds_toArray, List.set_cons_zero, List.set_cons_succ, Nat.zero_add, Nat.reduceAdd, e8] at hK ⊢
          rw [if_neg (by exact Bool.false_ne_true)]
          exact hK _ _ (Below.refl _ _) rfl
        · intro ys wx hw hd K hK
          have e8 : ys 8 = _ := hd 8 (by decide)
          simp only [putL, Act.put, List.setIfInBounds_toArray, List.set_cons_zero, List.set_cons_succ, Nat.zero_add, Nat.reduceAdd, e8] at hK ⊢
          rw [if_neg (by exact Bool.false_ne_true)]
          exact hK _ _ (Below.refl _ _) rfl
        · intro ys wx hw hd K hK
          have e8 : ys 8 = _ := hd 8 (by decide)
          have e10 : ys 10 = _ := hd 10 (by decide)
          simp only [putL, Act.put, List.setIfInBounds_toArray, List.set_cons_zero, List.set_cons_succ, Nat.zero_add, Nat.reduceAdd, e8, e10] at hK ⊢
          rw [if_neg (by exact Bool.false_ne_true)]
          exact hK _ _ (Below.refl _ _) rfl
        · intro ys wx hw hd K hK
          have e8 : ys 8 = _ := hd 8 (by decide)
          have e9 : ys 9 = _ := hd 9 (by decide)
          have e11 : ys 11 = _ := hd 11 (by decide)
          simp only [putL, Act.put, List.setIfInBounds_toArray, List.set_cons_zero, List.set_cons_succ, Nat.zero_add, Nat.reduceAdd, e8, e9, e11] at hK ⊢
          rw [if_neg (by exact Bool.false_ne_true)]
          exact hK _ _ (Below.refl _ _) rfl
        · intro ys wx hw hd K hK
          have e4 : ys 4 = _ := hd 4 (by decide)
          have e8 : ys 8 = _ := hd 8 (by decide)
          have e12 : ys 12 = _ := hd 12 (by decide)
          simp only [putL, Act.put, List.setIfInBounds_toArray, List.set_cons_zero, List.set_cons_succ, Nat.zero_add, Nat.reduceAdd, e4, e8, e12] at hK ⊢
          rw [if_pos (by rfl)]
          go_simp
          exact hK _ _ (Below.refl _ _) rfl
        · intro ys wx hw hd K hK
          have e4 : ys 4 = _ := hd 4 (by decide)
          have e13 : ys 13 = _ := hd 13 (by decide)
          simp only [putL, Act.put, List.setIfInBounds_toArray, List.set_cons_zero, List.set_cons_succ, Nat.zero_add, Nat.reduceAdd, e4, e13] at hK ⊢
          rw [if_pos (by rfl)]
          go_simp
          exact hK _ _ (Below.refl _ _) rfl
        · intro ys wx hw hd K hK
          have e14 : ys 14 = _ := hd 14 (by decide)
          simp only [putL, Act.put, List.setIfInBounds_toArray, List.set_cons_zero, List.set_cons_succ, Nat.zero_add, Nat.reduceAdd, e14] at hK ⊢
          rw [if_pos (by rfl)]
          go_simp
          exact hK _ _ (Below.refl _ _) rfl
        · intro ys wx hw hd K hK
          have e15 : ys 15 = _ := hd 15 (by decide)
          simp only [putL, Act.put, List.setIfInBounds_toArray, List.set_cons_zero, List.set_cons_succ, Nat.zero_add, Nat.reduceAdd, e15] at hK ⊢
          rw [if_pos (by rfl)]
          go_simp
          exact hK _ _ (Below.refl _ _) rfl
        · intro ys wx hw hd K hK
          have e15 : ys 15 = _ := hd 15 (by decide)
          have e16 : ys 16 = _ := hd 16 (by decide)
          simp only [putL, Act.put, List.setIfInBounds_toArray, List.set_cons_zero, List.set_cons_succ, Nat.zero_add, Nat.reduceAdd, e15, e16] at hK ⊢
          rw [if_pos (by rfl)]
          have hc2 := run_conv (okB.grow HY.out hw) Tryd.underlying22 Tryd.underlying5 Tryd.underlying9
          go_simp
          exact hK _ _ (Below.refl _ _) rfl
        · intro ys wx hw hd K hK
          have e15 : ys 15 = _ := hd 15 (by decide)
          simp only [putL, Act.put, List.setIfInBounds_toArray, List.set_cons_zero, List.set_cons_succ, Nat.zero_add, Nat.reduceAdd, e15] at hK ⊢
          rw [if_pos (by rfl)]
          go_simp
          exact hK _ _ (Below.refl _ _) rfl
        · intro ys wx hw hd K hK
          have e15 : ys 15 = _ := hd 15 (by decide)
          simp only [putL, Act.put, List.setIfInBounds_toArray, List.set_cons_zero, List.set_cons_succ, Nat.zero_add, Nat.reduceAdd, e15] at hK ⊢
          rw [if_pos (by rfl)]
          go_simp
          exact hK _ _ (Below.refl _ _) rfl
        · intro ys wx hw hd K hK
          have e15 : ys 15 = _ := hd 15 (by decide)
          have e18 : ys 18 = _ := hd 18 (by decide)
          have e19 : ys 19 = _ := hd 19 (by decide)
          simp only [putL, Act.put, List.setIfInBounds_toArray, List.set_cons_zero, List.set_cons_succ, Nat.zero_add, Nat.reduceAdd, e15, e18, e19] at hK ⊢
          rw [if_pos (by rfl)]
          have h9' : (k : Int) < 9 := by omega
          go_simp
          exact hK _ _ (Below.refl _ _) rfl
        · intro ys wx hw hd K hK
          have e15 : ys 15 = _ := hd 15 (by decide)
          have e20 : ys 20 = _ := hd 20 (by decide)
          simp only [putL, Act.put, List.setIfInBounds_toArray, List.set_cons_zero, List.set_cons_succ, Nat.zero_add, Nat.reduceAdd, e15, e20] at hK ⊢
          rw [if_pos (by rfl)]
          have kx := (hw.cell (World.block_lt_of_cell? _ _ HCX.out)).trans HCX.out
          go_simp
          exact hK _ _ (Below.refl _ _) rfl
        · intro ys wx hw hd K hK
          have e15 : ys 15 = _ := hd 15 (by decide)
          have e21 : ys 21 = _ := hd 21 (by decide)
          simp only [putL, Act.put, List.setIfInBounds_toArray, List.set_cons_zero, List.set_cons_succ, Nat.zero_add, Nat.reduceAdd, e15, e21] at hK ⊢
          rw [if_pos (by rfl)]
          have hc2 := run_conv (okB.grow HX.out hw) Tryd.underlying22 Tryd.underlying5 Tryd.underlying9
          go_simp
          exact hK _ _ (Below.refl _ _) rfl
        · intro ys wx hw hd K hK
          have e15 : ys 15 = _ := hd 15 (by decide)
          have e17 : ys 17 = _ := hd 17 (by decide)
          have e22 : ys 22 = _ := hd 22 (by decide)
          simp only [putL, Act.put, List.setIfInBounds_toArray, List.set_cons_zero, List.set_cons_succ, Nat.zero_add, Nat.reduceAdd, e15, e17, e22] at hK ⊢
          rw [if_pos (by rfl)]
          go_simp
          exact hK _ _ (Below.refl _ _) rfl
        · intro ys wx hw hd K hK
          have e15 : ys 15 = _ := hd 15 (by decide)
          have e23 : ys 23 = _ := hd 23 (by decide)
          simp only [putL, Act.put, List.setIfInBounds_toArray, List.set_cons_zero, List.set_cons_succ, Nat.zero_add, Nat.reduceAdd, e15, e23] at hK ⊢
          rw [if_pos (by rfl)]
          go_simp
          exact hK _ _ (Below.refl _ _) rfl
      · intro ys w' hl' hV
        have e24 : ys 24 = _ := hV 24 (by decide)
        clear hV
        simp only [putL, Act.put, List.setIfInBounds_toArray, List.set_cons_zero, List.set_cons_succ, Nat.zero_add, Nat.reduceAdd, e24]
        clear e24
        replace HLW := Lib.hid (HLW.out.trans (hl'.mono HLW.out.size))
        clear hl'
        go_wp2
        go_roundw
        case rel => exact ⟨k + 1, by omega, by go_num, HLW.out⟩
        case measure => simp [intOf]; omega
    have HK2 := Lib.hid hk2
    clear hk2
    by_cases hkm : (k : Int) = d.m
    · have HKM := Lib.hid hkm
      clear hkm
      refine region_list [Cv (.int .i64 k), Cv (.pointer (some ⟨w.heap.size, 1, none⟩)), Cv (.int .i64 d.n), Cv (.bool true), Cv (.bool true), Cv (.pointer (some ⟨w.heap.size, 0, none⟩)), Cv (.int .i64 d.kind), Cv (.bool false), Cv (.bool false), Cv (.int .i64 k), Cv (.pointer (some ⟨w.heap.size, 2, none⟩)), Cv (.int .i64 d.m), Cv (.bool false), Cv (.bool false), Cv (.bool false), Cv (.bool false), Cv (undef), Cv (undef), Cv (undef), Cv (undef), Cv (undef), Cv (undef), Cv (undef), Cv (undef), Cv (.bool false)] (by kernel_rfl) (by kernel_rfl) (by kernel_rfl) ?_ ?_ ?_
      · repeat (first | exact trivial | refine ⟨mC _, ?_⟩ | refine ⟨mR okB _, ?_⟩ | refine ⟨mT, ?_⟩ | refine ⟨mR okBB _, ?_⟩ | refine ⟨mR okBBB _, ?_⟩ | refine ⟨mR (okL okI) _, ?_⟩ | refine ⟨mKt _, ?_⟩ | refine ⟨mRa _ _, ?_⟩)
      · simp only [StepsL]
        refine ⟨?_, ?_, ?_, ?_, ?_, ?_, ?_, ?_, ?_, ?_, ?_, ?_, ?_, ?_, ?_, ?_, ?_, ?_, ?_, ?_, ?_, ?_, ?_, ?_, ?_, trivial⟩
        · intro ys wx hw hd K hK
          simp only [putL, Act.put, List.setIfInBounds_toArray, List.set_cons_zero, List.set_cons_succ, Nat.zero_add, Nat.reduceAdd] at hK ⊢
          rw [if_pos (by rfl)]
          go_simp
          exact hK _ _ (Below.refl _ _) rfl
        · intro ys wx hw hd K hK
          simp only [putL, Act.put, List.setIfInBounds_toArray, List.set_cons_zero, List.set_cons_succ, Nat.zero_add, Nat.reduceAdd] at hK ⊢
          rw [if_pos (by rfl)]
          go_simp
          exact hK _ _ (Below.refl _ _) rfl
        · intro ys wx hw hd K hK
          have e1 : ys 1 = _ := hd 1 (by decide)
          simp only [putL, Act.put, List.setIfInBounds_toArray, List.set_cons_zero, List.set_cons_succ, Nat.zero_add, Nat.reduceAdd, e1] at hK ⊢
          rw [if_pos (by rfl)]
          obtain ⟨kb0, kb1, kb2, kb3⟩ := (BoxAt.four (HBd2.out.keep hw HBd2.out.lt))
          go_simp
          exact hK _ _ (Below.refl _ _) rfl
        · intro ys wx hw hd K hK
          have e0 : ys 0 = _ := hd 0 (by decide)
          have e2 : ys 2 = _ := hd 2 (by decide)
          simp only [putL, Act.put, List.setIfInBounds_toArray, List.set_cons_zero, List.set_cons_succ, Nat.zero_add, Nat.reduceAdd, e0, e2] at hK ⊢
          rw [if_pos (by rfl)]
          have q0 : ((k : Int) != d.n) = true := by have := HKN.out; simpa using this
          go_simp
          exact hK _ _ (Below.refl _ _) rfl
        · intro ys wx hw hd K hK
          have e3 : ys 3 = _ := hd 3 (by decide)
          simp only [putL, Act.put, List.setIfInBounds_toArray, List.set_cons_zero, List.set_cons_succ, Nat.zero_add, Nat.reduceAdd, e3] at hK ⊢
          rw [if_pos (by rfl)]
          go_simp
          exact hK _ _ (Below.refl _ _) rfl
        · intro ys wx hw hd K hK
          have e4 : ys 4 = _ := hd 4 (by decide)
          simp only [putL, Act.put, List.setIfInBounds_toArray, List.set_cons_zero, List.set_cons_succ, Nat.zero_add, Nat.reduceAdd, e4] at hK ⊢
          rw [if_pos (by rfl)]
          go_simp
          exact hK _ _ (Below.refl _ _) rfl
        · intro ys wx hw hd K hK
          have e4 : ys 4 = _ := hd 4 (by decide)
          have e5 : ys 5 = _ := hd 5 (by decide)
          simp only [putL, Act.put, List.setIfInBounds_toArray, List.set_cons_zero, List.set_cons_succ, Nat.zero_add, Nat.reduceAdd, e4, e5] at hK ⊢
          rw [if_pos (by rfl)]
          obtain ⟨kb0, kb1, kb2, kb3⟩ := (BoxAt.four (HBd2.out.keep hw HBd2.out.lt))
          go_simp
          exact hK _ _ (Below.refl _ _) rfl
        · intro ys wx hw hd K hK
          have e4 : ys 4 = _ := hd 4 (by decide)
          have e6 : ys 6 = _ := hd 6 (by decide)
          simp only [putL, Act.put, List.setIfInBounds_toArray, List.set_cons_zero, List.set_cons_succ, Nat.zero_add, Nat.reduceAdd, e4, e6] at hK ⊢
          rw [if_pos (by rfl)]
          have q0 : (d.kind != 2) = false := by have := HK2.out; simpa using this
          go_simp
          exact hK _ _ (Below.refl _ _) rfl
        · intro ys wx hw hd K hK
          have e4 : ys 4 = _ := hd 4 (by decide)
          have e7 : ys 7 = _ := hd 7 (by decide)
          simp only [putL, Act.put, List.setIfInBounds_toArray, List.set_cons_zero, List.set_cons_succ, Nat.zero_add, Nat.reduceAdd, e4, e7] at hK ⊢
          rw [if_pos (by rfl)]
          go_simp
          exact hK _ _ (Below.refl _ _) rfl
        · intro ys wx hw hd K hK
          have e8 : ys 8 = _ := hd 8 (by decide)
          simp only [putL, Act.put, List.setIfInBounds_toArray, List.set_cons_zero, List.set_cons_succ, Nat.zero_add, Nat.reduceAdd, e8] at hK ⊢
          rw [if_pos (by rfl)]
          go_simp
          exact hK _ _ (Below.refl _ _) rfl
        · intro ys wx hw hd K hK
          have e8 : ys 8 = _ := hd 8 (by decide)
          simp only [putL, Act.put, List.setIfInBounds_toArray, List.set_cons_zero, List.set_cons_succ, Nat.zero_add, Nat.reduceAdd, e8] at hK ⊢
          rw [if_pos (by rfl)]
          go_simp
          exact hK _ _ (Below.refl _ _) rfl
        · intro ys wx hw hd K hK
          have e8 : ys 8 = _ := hd 8 (by decide)
          have e10 : ys 10 = _ := hd 10 (by decide)
          simp only [putL, Act.put, List.setIfInBounds_toArray, List.set_cons_zero, List.set_cons_succ, Nat.zero_add, Nat.reduceAdd, e8, e10] at hK ⊢
          rw [if_pos (by rfl)]
          obtain ⟨kb0, kb1, kb2, kb3⟩ := (BoxAt.four (HBd2.out.keep hw HBd2.out.lt))
          go_simp
          exact hK _ _ (Below.refl _ _) rfl
        · intro ys wx hw hd K hK
          have e8 : ys 8 = _ := hd 8 (by decide)
          have e9 : ys 9 = _ := hd 9 (by decide)
          have e11 : ys 11 = _ := hd 11 (by decide)
          simp only [putL, Act.put, List.setIfInBounds_toArray, List.set_cons_zero, List.set_cons_succ, Nat.zero_add, Nat.reduceAdd, e8, e9, e11] at hK ⊢
          rw [if_pos (by rfl)]
          have q0 : ((k : Int) != d.m) = false := by have := HKM.out; simpa using this
          go_simp
          exact hK _ _ (Below.refl _ _) rfl
        · intro ys wx hw hd K hK
          have e4 : ys 4 = _ := hd 4 (by decide)
          have e8 : ys 8 = _ := hd 8 (by decide)
          have e12 : ys 12 = _ := hd 12 (by decide)
          simp only [putL, Act.put, List.setIfInBounds_toArray, List.set_cons_zero, List.set_cons_succ, Nat.zero_add, Nat.reduceAdd, e4, e8, e12] at hK ⊢
          rw [if_pos (by rfl)]
          go_simp
          exact hK _ _ (Below.refl _ _) rfl
        · intro ys wx hw hd K hK
          have e4 : ys 4 = _ := hd 4 (by decide)
          have e13 : ys 13 = _ := hd 13 (by decide)
          simp only [putL, Act.put, List.setIfInBounds_toArray, List.set_cons_zero, List.set_cons_succ, Nat.zero_add, Nat.reduceAdd, e4, e13] at hK ⊢
          rw [if_pos (by rfl)]
          go_simp
          exact hK _ _ (Below.refl _ _) rfl
        · intro ys wx hw hd K hK
          have e14 : ys 14 = _ := hd 14 (by decide)
          simp only [putL, Act.put, List.setIfInBounds_toArray, List.set_cons_zero, List.set_cons_succ, Nat.zero_add, Nat.reduceAdd, e14] at hK ⊢
          rw [if_pos (by rfl)]
          go_simp
          exact hK _ _ (Below.refl _ _) rfl
        · intro ys wx hw hd K hK
          have e15 : ys 15 = _ := hd 15 (by decide)
          simp only [putL, Act.put, List.setIfInBounds_toArray, List.set_cons_zero, List.set_cons_succ, Nat.zero_add, Nat.reduceAdd, e15] at hK ⊢
          rw [if_neg (by exact Bool.false_ne_true)]
          exact hK _ _ (Below.refl _ _) rfl
        · intro ys wx hw hd K hK
          have e15 : ys 15 = _ := hd 15 (by decide)
          have e16 : ys 16 = _ := hd 16 (by decide)
          simp only [putL, Act.put, List.setIfInBounds_toArray, List.set_cons_zero, List.set_cons_succ, Nat.zero_add, Nat.reduceAdd, e15, e16] at hK ⊢
          rw [if_neg (by exact Bool.false_ne_true)]
          exact hK _ _ (Below.refl _ _) rfl
        · intro ys wx hw hd K hK
          have e15 : ys 15 = _ := hd 15 (by decide)
          simp only [putL, Act.put, List.setIfInBounds_toArray, List.set_cons_zero, List.set_cons_succ, Nat.zero_add, Nat.reduceAdd, e15] at hK ⊢
          rw [if_neg (by exact Bool.false_ne_true)]
          exact hK _ _ (Below.refl _ _) rfl
        · intro ys wx hw hd K hK
          have e15 : ys 15 = _ := hd 15 (by decide)
          simp only [putL, Act.put, List.setIfInBounds_toArray, List.set_cons_zero, List.set_cons_succ, Nat.zero_add, Nat.reduceAdd, e15] at hK ⊢
          rw [if_neg (by exact Bool.false_ne_true)]
          exact hK _ _ (Below.refl _ _) rfl
        · intro ys wx hw hd K hK
          have e15 : ys 15 = _ := hd 15 (by decide)
          have e18 : ys 18 = _ := hd 18 (by decide)
          have e19 : ys 19 = _ := hd 19 (by decide)
          simp only [putL, Act.put, List.setIfInBounds_toArray, List.set_cons_zero, List.set_cons_succ, Nat.zero_add, Nat.reduceAdd, e15, e18, e19] at hK ⊢
          rw [if_neg (by exact Bool.false_ne_true)]
          exact hK _ _ (Below.refl _ _) rfl
        · intro ys wx hw hd K hK
          have e15 : ys 15 = _ := hd 15 (by decide)
          have e20 : ys 20 = _ := hd 20 (by decide)
          simp only [putL, Act.put, List.setIfInBounds_toArray, List.set_cons_zero, List.set_cons_succ, Nat.zero_add, Nat.reduceAdd, e15, e20] at hK ⊢
          rw [if_neg (by exact Bool.false_ne_true)]
          exact hK _ _ (Below.refl _ _) rfl
        · intro ys wx hw hd K hK
          have e15 : ys 15 = _ := hd 15 (by decide)
          have e21 : ys 21 = _ := hd 21 (by decide)
          simp only [putL, Act.put, List.setIfInBounds_toArray, List.set_cons_zero, List.set_cons_succ, Nat.zero_add, Nat.reduceAdd, e15, e21] at hK ⊢
          rw [if_neg (by exact Bool.false_ne_true)]
          exact hK _ _ (Below.refl _ _) rfl
        · intro ys wx hw hd K hK
          have e15 : ys 15 = _ := hd 15 (by decide)
          have e17 : ys 17 = _ := hd 17 (by decide)
          have e22 : ys 22 = _ := hd 22 (by decide)
          simp only [putL, Act.put, List.setIfInBounds_toArray, List.set_cons_zero, List.set_cons_succ, Nat.zero_add, Nat.reduceAdd, e15, e17, e22] at hK ⊢
          rw [if_neg (by exact Bool.false_ne_true)]
          exact hK _ _ (Below.refl _ _) rfl
        · intro ys wx hw hd K hK
          have e15 : ys 15 = _ := hd 15 (by decide)
          have e23 : ys 23 = _ := hd 23 (by decide)
          simp only [putL, Act.put, List.setIfInBounds_toArray, List.set_cons_zero, List.set_cons_succ, Nat.zero_add, Nat.reduceAdd, e15, e23] at hK ⊢
          rw [if_pos (by rfl)]
          go_simp
          exact hK _ _ (Below.refl _ _) rfl
      · intro ys w' hl' hV
        have e24 : ys 24 = _ := hV 24 (by decide)
        clear hV
        simp only [putL, Act.put, List.setIfInBounds_toArray, List.set_cons_zero, List.set_cons_succ, Nat.zero_add, Nat.reduceAdd, e24]
        clear e24
        replace HLW := Lib.hid (HLW.out.trans (hl'.mono HLW.out.size))
        clear hl'
        go_wp2
        go_roundw
        case rel => exact ⟨k + 1, by omega, by go_num, HLW.out⟩
        case measure => simp [intOf]; omega
    obtain rfl : y = x := HS.out HKN.out (.inr hkm)
    have HKM := Lib.hid hkm
    clear hkm
    refine region_list [Cv (.int .i64 k), Cv (.pointer (some ⟨w.heap.size, 1, none⟩)), Cv (.int .i64 d.n), Cv (.bool true), Cv (.bool true), Cv (.pointer (some ⟨w.heap.size, 0, none⟩)), Cv (.int .i64 d.kind), Cv (.bool false), Cv (.bool false), Cv (.int .i64 k), Cv (.pointer (some ⟨w.heap.size, 2, none⟩)), Cv (.int .i64 d.m), Cv (.bool true), Cv (.bool true), Cv (.bool true), Cv (.bool true), Cv (.slice Ay y.length cy), Cv (.string (strB y)), Cv (.slice (some ⟨bw, ow, none⟩) 9 cw), Cv (.int .i64 k), Cv (.pointer (some ⟨bw, ow + k, none⟩)), Cv (.slice Ax y.length cx), Cv (.string (strB y)), Cv (.bool false), Cv (.bool false)] (by kernel_rfl) (by kernel_rfl) (by kernel_rfl) ?_ ?_ ?_
    · repeat (first | exact trivial | refine ⟨mC _, ?_⟩ | refine ⟨mR okB _, ?_⟩ | refine ⟨mT, ?_⟩ | refine ⟨mR okBB _, ?_⟩ | refine ⟨mR okBBB _, ?_⟩ | refine ⟨mR (okL okI) _, ?_⟩ | refine ⟨mKt _, ?_⟩ | refine ⟨mRa _ _, ?_⟩)
    · simp only [StepsL]
      refine ⟨?_, ?_, ?_, ?_, ?_, ?_, ?_, ?_, ?_, ?_, ?_, ?_, ?_, ?_, ?_, ?_, ?_, ?_, ?_, ?_, ?_, ?_, ?_, ?_, ?_, trivial⟩
      · intro ys wx hw hd K hK
        simp only [putL, Act.put, List.setIfInBounds_toArray, List.set_cons_zero, List.set_cons_succ, Nat.zero_add, Nat.reduceAdd] at hK ⊢
        rw [if_pos (by rfl)]
        go_simp
        exact hK _ _ (Below.refl _ _) rfl
      · intro ys wx hw hd K hK
        simp only [putL, Act.put, List.setIfInBounds_toArray, List.set_cons_zero, List.set_cons_succ, Nat.zero_add, Nat.reduceAdd] at hK ⊢
        rw [if_pos (by rfl)]
        go_simp
        exact hK _ _ (Below.refl _ _) rfl
      · intro ys wx hw hd K hK
        have e1 : ys 1 = _ := hd 1 (by decide)
        simp only [putL, Act.put, List.setIfInBounds_toArray, List.set_cons_zero, List.set_cons_succ, Nat.zero_add, Nat.reduceAdd, e1] at hK ⊢
        rw [if_pos (by rfl)]
        obtain ⟨kb0, kb1, kb2, kb3⟩ := (BoxAt.four (HBd2.out.keep hw HBd2.out.lt))
        go_simp
        exact hK _ _ (Below.refl _ _) rfl
      · intro ys wx hw hd K hK
        have e0 : ys 0 = _ := hd 0 (by decide)
        have e2 : ys 2 = _ := hd 2 (by decide)
        simp only [putL, Act.put, List.setIfInBounds_toArray, List.set_cons_zero, List.set_cons_succ, Nat.zero_add, Nat.reduceAdd, e0, e2] at hK ⊢
        rw [if_pos (by rfl)]
        have q0 : ((k : Int) != d.n) = true := by have := HKN.out; simpa using this
        go_simp
        exact hK _ _ (Below.refl _ _) rfl
      · intro ys wx hw hd K hK
        have e3 : ys 3 = _ := hd 3 (by decide)
        simp only [putL, Act.put, List.setIfInBounds_toArray, List.set_cons_zero, List.set_cons_succ, Nat.zero_add, Nat.reduceAdd, e3] at hK ⊢
        rw [if_pos (by rfl)]
        go_simp
        exact hK _ _ (Below.refl _ _) rfl
      · intro ys wx hw hd K hK
        have e4 : ys 4 = _ := hd 4 (by decide)
        simp only [putL, Act.put, List.setIfInBounds_toArray, List.set_cons_zero, List.set_cons_succ, Nat.zero_add, Nat.reduceAdd, e4] at hK ⊢
        rw [if_pos (by rfl)]
        go_simp
        exact hK _ _ (Below.refl _ _) rfl
      · intro ys wx hw hd K hK
        have e4 : ys 4 = _ := hd 4 (by decide)
        have e5 : ys 5 = _ := hd 5 (by decide)
        simp only [putL, Act.put, List.setIfInBounds_toArray, List.set_cons_zero, List.set_cons_succ, Nat.zero_add, Nat.reduceAdd, e4, e5] at hK ⊢
        rw [if_pos (by rfl)]
        obtain ⟨kb0, kb1, kb2, kb3⟩ := (BoxAt.four (HBd2.out.keep hw HBd2.out.lt))
        go_simp
        exact hK _ _ (Below.refl _ _) rfl
      · intro ys wx hw hd K hK
        have e4 : ys 4 = _ := hd 4 (by decide)
        have e6 : ys 6 = _ := hd 6 (by decide)
        simp only [putL, Act.put, List.setIfInBounds_toArray, List.set_cons_zero, List.set_cons_succ, Nat.zero_add, Nat.reduceAdd, e4, e6] at hK ⊢
        rw [if_pos (by rfl)]
        have q0 : (d.kind != 2) = false := by have := HK2.out; simpa using this
        go_simp
        exact hK _ _ (Below.refl _ _) rfl
      · intro ys wx hw hd K hK
        have e4 : ys 4 = _ := hd 4 (by decide)
        have e7 : ys 7 = _ := hd 7 (by decide)
        simp only [putL, Act.put, List.setIfInBounds_toArray, List.set_cons_zero, List.set_cons_succ, Nat.zero_add, Nat.reduceAdd, e4, e7] at hK ⊢
        rw [if_pos (by rfl)]
        go_simp
        exact hK _ _ (Below.refl _ _) rfl
      · intro ys wx hw hd K hK
        have e8 : ys 8 = _ := hd 8 (by decide)
        simp only [putL, Act.put, List.setIfInBounds_toArray, List.set_cons_zero, List.set_cons_succ, Nat.zero_add, Nat.reduceAdd, e8] at hK ⊢
        rw [if_pos (by rfl)]
        go_simp
        exact hK _ _ (Below.refl _ _) rfl
      · intro ys wx hw hd K hK
        have e8 : ys 8 = _ := hd 8 (by decide)
        simp only [putL, Act.put, List.setIfInBounds_toArray, List.set_cons_zero, List.set_cons_succ, Nat.zero_add, Nat.reduceAdd, e8] at hK ⊢
        rw [if_pos (by rfl)]
        go_simp
        exact hK _ _ (Below.refl _ _) rfl
      · intro ys wx hw hd K hK
        have e8 : ys 8 = _ := hd 8 (by decide)
        have e10 : ys 10 = _ := hd 10 (by decide)
        simp only [putL, Act.put, List.setIfInBounds_toArray, List.set_cons_zero, List.set_cons_succ, Nat.zero_add, Nat.reduceAdd, e8, e10] at hK ⊢
        rw [if_pos (by rfl)]
        obtain ⟨kb0, kb1, kb2, kb3⟩ := (BoxAt.four (HBd2.out.keep hw HBd2.out.lt))
        go_simp
        exact hK _ _ (Below.refl _ _) rfl
      · intro ys wx hw hd K hK
        have e8 : ys 8 = _ := hd 8 (by decide)
        have e9 : ys 9 = _ := hd 9 (by decide)
        have e11 : ys 11 = _ := hd 11 (by decide)
        simp only [putL, Act.put, List.setIfInBounds_toArray, List.set_cons_zero, List.set_cons_succ, Nat.zero_add, Nat.reduceAdd, e8, e9, e11] at hK ⊢
        rw [if_pos (by rfl)]
        have q0 : ((k : Int) != d.m) = true := by have := HKM.out; simpa using this
        go_simp
        exact hK _ _ (Below.refl _ _) rfl
      · intro ys wx hw hd K hK
        have e4 : ys 4 = _ := hd 4 (by decide)
        have e8 : ys 8 = _ := hd 8 (by decide)
        have e12 : ys 12 = _ := hd 12 (by decide)
        simp only [putL, Act.put, List.setIfInBounds_toArray, List.set_cons_zero, List.set_cons_succ, Nat.zero_add, Nat.reduceAdd, e4, e8, e12] at hK ⊢
        rw [if_pos (by rfl)]
        go_simp
        exact hK _ _ (Below.refl _ _) rfl
      · intro ys wx hw hd K hK
        have e4 : ys 4 = _ := hd 4 (by decide)
        have e13 : ys 13 = _ := hd 13 (by decide)
        simp only [putL, Act.put, List.setIfInBounds_toArray, List.set_cons_zero, List.set_cons_succ, Nat.zero_add, Nat.reduceAdd, e4, e13] at hK ⊢
        rw [if_pos (by rfl)]
        go_simp
        exact hK _ _ (Below.refl _ _) rfl
      · intro ys wx hw hd K hK
        have e14 : ys 14 = _ := hd 14 (by decide)
        simp only [putL, Act.put, List.setIfInBounds_toArray, List.set_cons_zero, List.set_cons_succ, Nat.zero_add, Nat.reduceAdd, e14] at hK ⊢
        rw [if_pos (by rfl)]
        go_simp
        exact hK _ _ (Below.refl _ _) rfl
      · intro ys wx hw hd K hK
        have e15 : ys 15 = _ := hd 15 (by decide)
        simp only [putL, Act.put, List.setIfInBounds_toArray, List.set_cons_zero, List.set_cons_succ, Nat.zero_add, Nat.reduceAdd, e15] at hK ⊢
        rw [if_pos (by rfl)]
        go_simp
        exact hK _ _ (Below.refl _ _) rfl
      · intro ys wx hw hd K hK
        have e15 : ys 15 = _ := hd 15 (by decide)
        have e16 : ys 16 = _ := hd 16 (by decide)
        simp only [putL, Act.put, List.setIfInBounds_toArray, List.set_cons_zero, List.set_cons_succ, Nat.zero_add, Nat.reduceAdd, e15, e16] at hK ⊢
        rw [if_pos (by rfl)]
        have hc2 := run_conv (okB.grow HY.out hw) Tryd.underlying22 Tryd.underlying5 Tryd.underlying9
        go_simp
        exact hK _ _ (Below.refl _ _) rfl
      · intro ys wx hw hd K hK
        have e15 : ys 15 = _ := hd 15 (by decide)
        simp only [putL, Act.put, List.setIfInBounds_toArray, List.set_cons_zero, List.set_cons_succ, Nat.zero_add, Nat.reduceAdd, e15] at hK ⊢
        rw [if_pos (by rfl)]
        go_simp
        exact hK _ _ (Below.refl _ _) rfl
      · intro ys wx hw hd K hK
        have e15 : ys 15 = _ := hd 15 (by decide)
        simp only [putL, Act.put, List.setIfInBounds_toArray, List.set_cons_zero, List.set_cons_succ, Nat.zero_add, Nat.reduceAdd, e15] at hK ⊢
        rw [if_pos (by rfl)]
        go_simp
        exact hK _ _ (Below.refl _ _) rfl
      · intro ys wx hw hd K hK
        have e15 : ys 15 = _ := hd 15 (by decide)
        have e18 : ys 18 = _ := hd 18 (by decide)
        have e19 : ys 19 = _ := hd 19 (by decide)
        simp only [putL, Act.put, List.setIfInBounds_toArray, List.set_cons_zero, List.set_cons_succ, Nat.zero_add, Nat.reduceAdd, e15, e18, e19] at hK ⊢
        rw [if_pos (by rfl)]
        have h9' : (k : Int) < 9 := by omega
        go_simp
        exact hK _ _ (Below.refl _ _) rfl
      · intro ys wx hw hd K hK
        have e15 : ys 15 = _ := hd 15 (by decide)
        have e20 : ys 20 = _ := hd 20 (by decide)
        simp only [putL, Act.put, List.setIfInBounds_toArray, List.set_cons_zero, List.set_cons_succ, Nat.zero_add, Nat.reduceAdd, e15, e20] at hK ⊢
        rw [if_pos (by rfl)]
        have kx := (hw.cell (World.block_lt_of_cell? _ _ HCX.out)).trans HCX.out
        go_simp
        exact hK _ _ (Below.refl _ _) rfl
      · intro ys wx hw hd K hK
        have e15 : ys 15 = _ := hd 15 (by decide)
        have e21 : ys 21 = _ := hd 21 (by decide)
        simp only [putL, Act.put, List.setIfInBounds_toArray, List.set_cons_zero, List.set_cons_succ, Nat.zero_add, Nat.reduceAdd, e15, e21] at hK ⊢
        rw [if_pos (by rfl)]
        have hc2 := run_conv (okB.grow HX.out hw) Tryd.underlying22 Tryd.underlying5 Tryd.underlying9
        go_simp
        exact hK _ _ (Below.refl _ _) rfl
      · intro ys wx hw hd K hK
        have e15 : ys 15 = _ := hd 15 (by decide)
        have e17 : ys 17 = _ := hd 17 (by decide)
        have e22 : ys 22 = _ := hd 22 (by decide)
        simp only [putL, Act.put, List.setIfInBounds_toArray, List.set_cons_zero, List.set_cons_succ, Nat.zero_add, Nat.reduceAdd, e15, e17, e22] at hK ⊢
        rw [if_pos (by rfl)]
        go_simp
        exact hK _ _ (Below.refl _ _) rfl
      · intro ys wx hw hd K hK
        have e15 : ys 15 = _ := hd 15 (by decide)
        have e23 : ys 23 = _ := hd 23 (by decide)
        simp only [putL, Act.put, List.setIfInBounds_toArray, List.set_cons_zero, List.set_cons_succ, Nat.zero_add, Nat.reduceAdd, e15, e23] at hK ⊢
        rw [if_pos (by rfl)]
        go_simp
        exact hK _ _ (Below.refl _ _) rfl
    · intro ys w' hl' hV
      have e24 : ys 24 = _ := hV 24 (by decide)
      clear hV
      simp only [putL, Act.put, List.setIfInBounds_toArray, List.set_cons_zero, List.set_cons_succ, Nat.zero_add, Nat.reduceAdd, e24]
      clear e24
      replace HLW := Lib.hid (HLW.out.trans (hl'.mono HLW.out.size))
      clear hl'
      go_wp2
      go_roundw
      case rel => exact ⟨k + 1, by omega, by go_num, HLW.out⟩
      case measure => simp [intOf]; omega
namespace topHoleDone
open Go.ChangeShapes Go.WideShapes Go.ChangeAt Go.RowKit M
open Go.ChangeMaps (open_string shut_string)
set_option linter.unusedVariables false
set_option maxRecDepth 100000 in
theorem contract (H : Type) (enc : TypeId × Value → H) (W : World) (base : Nat) (args : Array Value) (ds gs : List (DataW H)) (before : List MemPlace)
    (hval0 : ∀ (j : Nat) t v, Tryd.f6.params[j]? = some t → args[j]? = some v → Value.okWide Tryd.prog W .any base t v)
    (hW : DataW.Whole enc Tryd.prog Tryd.f6.params.toList Rows.topHoleSpec.vars false W args.toList ds gs before) (hL : laidMetH Tryd.prog Rows.textTellsRow.laid W) (hs : W.ShapedOpen Tryd.prog) :
    Calls Tryd.prog 6 args W fun e W' => ∃ v, e = .returned v ∧ Rows.topHoleSpec.post enc Tryd.prog Tryd.f6 false true false false W args v W' := by
  have hval : ∀ (j : Nat) t v, Tryd.f6.params[j]? = some t → args[j]? = some v → Value.okWide Tryd.prog W .any base t v := hval0
  have hW' := hW
  obtain ⟨p, q, hA0, hV, rfl, hfz, hnd⟩ := hW
  have hA : DataW.TrodAll enc Tryd.prog W 0 (fun _ => true) true Tryd.f6.params.toList args.toList ds p := hA0
  rw [Tryd.params6] at hA hval
  obtain ⟨v0, vs0, d0, ds0, p0, q0, hargs, rfl, rfl, h0, r0⟩ := trodAll_cons hA
  obtain ⟨v1, vs1, d1, ds1, p1, q1, rfl, rfl, rfl, h1, r1⟩ := trodAll_cons r0
  obtain ⟨v2, vs2, d2, ds2, p2, q2, rfl, rfl, rfl, h2, r2⟩ := trodAll_cons r1
  obtain ⟨rfl, rfl, rfl⟩ := trodAll_nil r2
  obtain rfl : args = #[v0, v1, v2] := by cases args; simp_all
  obtain ⟨rfl, rfl⟩ := trodVars_none hV
  obtain ⟨b0, w0⟩ := open_deed (hval 0 24 v0 rfl rfl) h0
  have k0 := h0
  have lt0 : ∀ x ∈ p0, x.block < W.heap.size := by obtain ⟨m, hm⟩ := k0; exact DataW.trod_lt m _ _ _ hm
  obtain ⟨a1, rfl, rfl, rfl, w1⟩ := open_int Tryd.underlying3 (hval 1 3 v1 rfl rfl) h1
  have b1 := bounds_i64 w1
  obtain ⟨a2, rfl, rfl, rfl, w2⟩ := open_int Tryd.underlying3 (hval 2 3 v2 rfl rfl) h2
  have b2 := bounds_i64 w2
  clear hA0 hval0
  refine (topHole_walk b0 _ a1 a2 W (vars_of hL hs) w0 b1.1 b1.2 b2.1 b2.2).mono fun e W' ⟨he, bel⟩ => ?_
  subst he
  exact ⟨_, rfl, _, _, _, [], _, [], hW', trodAll_mk1 (shut_bool Tryd.underlying4 _), (trodAll_cons_mk (Below.trod laidOut (by kernel_rfl) (of_decide_eq_true (by kernel_rfl)) k0 bel lt0) (trodAll_cons_mk (shut_int Tryd.underlying3 w1) (trodAll_cons_mk (shut_int Tryd.underlying3 w2) trodAll_mk0))), rfl, bel.frame _, fun h => by cases h⟩
set_option maxRecDepth 100000 in
theorem reads (os : Os) {H : Type} (enc : TypeId × Value → H) : ∃ places, DataW.whole enc Tryd.prog ((laidWorld os).forCall (fun _ _ => 0) ⟨#[], #[.agg #[.int .i64 0, .int .i64 0, .int .i64 0, .slice none 0 0], .int .i64 0, .int .i64 0], []⟩).memory Tryd.f6.params.toList Rows.topHoleSpec.vars false (#[.agg #[.int .i64 0, .int .i64 0, .int .i64 0, .slice none 0 0], .int .i64 0, .int .i64 0] : Array Value).toList 8 = some ([.agg [.lit (.int .i64 0), .lit (.int .i64 0), .lit (.int .i64 0), .nil], .lit (.int .i64 0), .lit (.int .i64 0)], [], places) :=
  ⟨[], by kernel_rfl⟩
set_option maxRecDepth 100000 in
theorem lifted (os : Os) (started : os.Started) (H : Type) (enc : TypeId × Value → H) (F : Stop.Interp) :
    ReturnsInHanded {} Tryd.checked os 6 .any ((OpenSpec.ofChange Rows.topHoleSpec).preRow enc Tryd.prog Tryd.f6 Rows.topHoleRow.domain false Rows.topHoleRow.laid) (((OpenSpec.ofChange Rows.topHoleSpec).at F).post enc Tryd.prog Tryd.f6 false true false false) := by
  obtain ⟨places, hx⟩ := reads os enc
  refine returnsInHanded_of_row (C := Tryd.checked) (s := OpenSpec.ofChange Rows.topHoleSpec) own started (by kernel_rfl) Tryd.func6
    (witness_row_atRef (enc := enc) (C := Tryd.checked) false (laidWorld os) #[.agg #[.int .i64 0, .int .i64 0, .int .i64 0, .slice none 0 0], .int .i64 0, .int .i64 0] rfl (by kernel_rfl) (by kernel_rfl) (by kernel_rfl)
      (OpenSpec.preRow_of_cond 8 hx (by kernel_rfl) (fun k hk => by cases hk) (by kernel_rfl) (laid_metH os _))) ?_
  intro W base args ds gs before hval hW _ hcond _ hL hs _
  exact contract H enc W base args ds gs before hval hW hL hs
theorem said : Rows.topHoleRow.holds Tryd.pinned (OpenSpec.ofChange Rows.topHoleSpec) :=
  OpenClaim.holds_of_cond 6 Tryd.f6 rfl rfl rfl rfl rfl rfl rfl ⟨rfl, rfl, rfl, rfl, rfl⟩ rfl rfl rfl rfl rfl (by kernel_rfl) Tryd.func6 (by kernel_rfl)
    (of_decide_eq_true (by kernel_rfl)) (by unfold Func.isWrapper; first | (rw [if_pos (by decide +kernel)]; kernel_rfl) | (rw [if_neg (by decide +kernel)]; exact ⟨rfl, rfl⟩))
    (fun os started H enc _ F => by rw [OpenClaim.pre_eq_preRow]; exact lifted os started H enc F)
theorem plain (f : FuncId) (fn : Func) (hf : Tryd.pinned.checked.prog.funcNamed Rows.topHoleRow.func = some f) (hfn : Tryd.pinned.checked.prog.funcs[f]? = some fn) :
    true = Tryd.pinned.checked.prog.looks [] ∧ ∀ (j : Nat) t, fn.params[j]? = some t → Tryd.pinned.checked.prog.wantsStandIn t = false := by
  obtain rfl : f = 6 := Option.some.inj ((show Tryd.prog.funcNamed Rows.topHoleRow.func = some 6 by kernel_rfl).symm.trans hf) |>.symm
  obtain rfl : fn = Tryd.f6 := (Option.some.inj (Tryd.func6.symm.trans hfn)).symm
  refine ⟨by kernel_rfl, fun j t ht => ?_⟩
  rw [Tryd.params6] at ht
  have hm : t ∈ ([24, 3, 3] : List TypeId) := by simpa using Array.mem_of_getElem? ht
  have hall : (([24, 3, 3] : List TypeId).all fun u => !Tryd.prog.wantsStandIn u) = true := by kernel_rfl
  exact (show Tryd.prog.wantsStandIn t = false by simpa using List.all_eq_true.1 hall t hm)
/-- The card. -/
theorem proved : Rows.TopHoleCardSaid :=
  Claim7.holds_tied_plain_at .later [] _ _ _ _ said (fun _ h => by cases h) (by kernel_rfl) (fun _ h => by cases h) topHole_row_tie rfl ⟨rfl, rfl⟩ (by kernel_rfl) rfl plain (by kernel_rfl)
end topHoleDone
end Go.Proofs.YtdcmbdghnkgghaaDoor

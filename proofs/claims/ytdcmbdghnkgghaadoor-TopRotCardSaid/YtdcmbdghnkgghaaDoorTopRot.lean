/- TopRot: the walk: for every input the call returns true. -/
import Derived.Test.YtdcmbdghnkgghaaDoorTopRotF
namespace Go.Proofs.YtdcmbdghnkgghaaDoor
set_option linter.unusedVariables false
open Go Go.RowKit M
theorem mul_rot {d : Int} {s : Nat} (h0 : 0 ≤ d) (h4 : d < 4) (hs : s < 3) : IntKind.i64.wrap (3 * d) = 3 * d ∧ IntKind.i64.wrap (3 * d + s) = 3 * d + s := ⟨IntWalk.i64_in _ (by omega), IntWalk.i64_in _ (by omega)⟩
set_option maxRecDepth 100000 in
set_option maxHeartbeats 3200000 in
theorem topRot_walk (ds : List Int) (v : Value) (m rounds : Int) (w : World) (hv : Vars w) (h : RdL RI w (fun _ => True) v ds) (_ : -9223372036854775808 ≤ m) (_ : m ≤ 9223372036854775807) (_ : -9223372036854775808 ≤ rounds) (_ : rounds ≤ 9223372036854775807) :
    Calls Tryd.prog 8 #[v, .int .i64 m, .int .i64 rounds] w fun e w' => e = .returned (.bool true) ∧ Below w.heap.size w w' := by
  obtain ⟨Al, cl, rfl, hlc, hm⟩ := h.shape
  unfold maxLen at hm
  have HL := Lib.hid ((okL okI).lt h)
  have HV := Lib.hid hv
  have HBel := Lib.hid (Below.refl w.heap.size w)
  clear hv h
  go_enter Tryd.func8, Tryd.ntmps8
  go_wp2_with fail
  refine (top_alive _ HV.out).mono ?_
  rintro e w0 ⟨rfl, hb⟩
  replace HBel := Lib.hid (HBel.out.trans (hb.mono HBel.out.size))
  replace HV := Lib.hid (HV.out.grow hb)
  clear hb
  by_cases h0 : ds.length = 3
  rotate_left
  · have e0 : ((ds.length : Int) != 3) = true := by simp; omega
    go_wp2
    go_ret
    exact ⟨rfl, HBel.out⟩
  rw [h0] at HL ⊢
  by_cases h1 : m < 0
  · go_wp2
    go_ret
    exact ⟨rfl, HBel.out⟩
  by_cases h2 : 8 ≤ m
  · go_wp2
    go_ret
    exact ⟨rfl, HBel.out⟩
  by_cases h3 : rounds < 0
  · go_wp2
    go_ret
    exact ⟨rfl, HBel.out⟩
  by_cases h4 : 9 < rounds
  · go_wp2
    go_ret
    exact ⟨rfl, HBel.out⟩
  have HIN := Lib.hid (show 0 ≤ m ∧ m < 8 by omega)
  have e1 : decide (m < 0) = false := by simpa using h1
  have e2 : decide (8 ≤ m) = false := by simpa using h2
  have e3 : decide (rounds < 0) = false := by simpa using h3
  have e4 : decide (9 < rounds) = false := by simpa using h4
  have HLen := Lib.hid h0
  go_wp2_with fail
  obtain ⟨R, rfl⟩ : ∃ R : Nat, rounds = R := ⟨rounds.toNat, by omega⟩
  have hR9 : R ≤ 9 := by omega
  clear h0 h1 h2 h3 h4 e1 e2 e3 e4 hlc
  refine (top_full _ HV.out).mono ?_
  rintro e waA ⟨vA, uF, rfl, hr, hu, hb⟩
  obtain ⟨Aw, cw, rfl, _, _⟩ := hu.shape
  rw [show wantF.length = 9 from rfl] at hu ⊢
  obtain ⟨bA, oA, cA, AA, dA, rfl, _, _, hcA, hmA⟩ := RdA_open hr full_good.1
  rw [show fullA.ints.length = 0 by rw [full_good.2]; rfl] at hr ⊢
  have ord0A : w.heap.size ≤ waA.heap.size := Nat.le_trans HBel.out.size hb.size
  have hal := below_alloc waA (.cells #[.slice (some ⟨bA, oA, none⟩) 4 cA, .slice AA 0 dA] 37)
  have hX := boxAt_new waA 37 [.slice (some ⟨bA, oA, none⟩) 4 cA, .slice AA 0 dA]
  have hbb := hb.trans (hal.mono hb.size)
  have hrl := hr.lt.mono (F' := fun k => w.heap.size ≤ k ∧ k < waA.heap.size) fun k hk => by have := HBel.out.size;  omega
  have HRdA := Lib.hid (hrl.grow hal)
  replace HBel := Lib.hid (HBel.out.trans (hbb.mono HBel.out.size))
  have HW := Lib.hid (okBB.mono (okBB.grow (okBB.lt hu) hal) (F' := fun k => k < waA.heap.size) fun k hk => hk.2)
  obtain ⟨wA, hwA⟩ : ∃ x, waA.alloc (.cells #[.slice (some ⟨bA, oA, none⟩) 4 cA, .slice AA 0 dA] 37) = x := ⟨_, rfl⟩
  change BoxAt (waA.alloc (.cells #[.slice (some ⟨bA, oA, none⟩) 4 cA, .slice AA 0 dA] 37)) _ _ _ at hX
  rw [hwA] at hX HRdA HBel    HW
  have HBxA := Lib.hid hX
  clear hal hX hbb hr hb hrl
  obtain ⟨pA0, pA1, pA2, pA3⟩ := HBxA.out.two
  go_wp2_with fail
  clear hwA
  clear hu pA0 pA1 pA2 pA3
  go_loopw [41] (fun i wr => ∃ k : Nat, k ≤ R ∧ i = .int .i64 k ∧ (∃ dv iv, BoxAt wr waA.heap.size 37 [dv, iv] ∧ RdA wr (fun q => q ≠ waA.heap.size ∧ q < wr.heap.size) (.agg #[dv, iv]) fullA) ∧ RdBB wr (fun k => k < waA.heap.size) (.slice Aw 9 cw) wantF ∧ Below w.heap.size w wr) (fun i _ => R - (intOf i).toNat)
  case atStart => exact ⟨0, Nat.zero_le _, rfl, ⟨_, _, HBxA.out, HRdA.out.mono fun k hk => by have := HBxA.out.lt; omega⟩, HW.out, HBel.out⟩
  case round =>
    clear HBxA HRdA HBel HW HV
    obtain ⟨k, hk, rfl, ⟨dv, iv, hA, hR⟩, hw, hB⟩ := hrel
    obtain ⟨b1, o1, c1, A1, c2, hag, _, _, hc11, hc12⟩ := RdA_open hR full_good.1
    injection hag with hag
    simp only [Array.mk.injEq, List.cons.injEq, and_true] at hag
    obtain ⟨rfl, rfl⟩ := hag
    rw [show fullA.ints.length = 0 by rw [full_good.2]; rfl] at hA hR
    have HBxA := Lib.hid hA
    have HRdA := Lib.hid hR
    have HW := Lib.hid hw
    have HBel := Lib.hid hB
    have hrA := hA.lt
    clear hA hR hw hB
    by_cases hlt : k < R
    rotate_left
    · obtain rfl : k = R := by omega
      obtain ⟨pA0, pA1, pA2, pA3⟩ := HBxA.out.two
      go_wp2_with fail
      refine (mend_Worst fullA _ _ _ HRdA.out full_good.1).mono ?_
      rintro e wq ⟨rfl, hb⟩
      rw [f_worst]
      replace HBel := Lib.hid (HBel.out.trans (hb.mono HBel.out.size))
      clear pA0 pA1 pA2 pA3 hb
      go_wp2
      go_ret
      exact ⟨rfl, HBel.out⟩
    have hbk : decide ((k : Int) < (R : Int)) = true := by simp; omega
    go_wp2_with fail
    rename World => wo
    go_loopw [45] (fun i wr => ∃ j : Nat, j ≤ 3 ∧ i = .int .i64 j ∧ (∀ i, i < j → 0 ≤ ds.getD i 0 ∧ ds.getD i 0 < 4) ∧ (∃ dv iv, BoxAt wr waA.heap.size 37 [dv, iv] ∧ RdA wr (fun q => q ≠ waA.heap.size ∧ q < wr.heap.size) (.agg #[dv, iv]) (rotTo ds m j)) ∧ RdBB wr (fun k => k < waA.heap.size) (.slice Aw 9 cw) wantF ∧ Below w.heap.size w wr) (fun i _ => 3 - (intOf i).toNat)
    case atStart => exact ⟨0, Nat.zero_le _, rfl, fun _ h => absurd h (Nat.not_lt_zero _), ⟨_, _, HBxA.out, by rw [rotTo_zero]; exact HRdA.out⟩, HW.out, HBel.out⟩
    case round =>
      clear HBxA HRdA HBel HW hrA
      obtain ⟨j, hj, rfl, hds, ⟨dv, iv, hA, hR⟩, hw, hB⟩ := hrel
      have HG := Lib.hid (rotTo_good ds m j)
      have HDS := Lib.hid hds
      clear hds
      obtain ⟨b1, o1, c1, A1, c2, hag, _, _, hc11, hc12⟩ := RdA_open hR HG.out.1
      injection hag with hag
      simp only [Array.mk.injEq, List.cons.injEq, and_true] at hag
      obtain ⟨rfl, rfl⟩ := hag
      rw [show (rotTo ds m j).ints.length = 0 by rw [HG.out.2]; rfl] at hA hR
      have HBxA := Lib.hid hA
      have HRdA := Lib.hid hR
      have HW := Lib.hid hw
      have HBel := Lib.hid hB
      have hrA := hA.lt
      clear hA hR hw hB
      by_cases hlj : j < 3
      rotate_left
      · obtain rfl : j = 3 := by omega
        have HF := Lib.hid (rotTo_facts HDS.out HIN.out)
        generalize rotTo ds m 3 = a at *
        obtain ⟨pA0, pA1, pA2, pA3⟩ := HBxA.out.two
        go_wp2_with fail
        refine (array_Blocks a _ _ _ HRdA.out HG.out.1).mono ?_
        rintro e wb ⟨vb, rfl, hrb, hb⟩
        rw [HF.out.2.1] at hrb ⊢
        obtain ⟨Ab, cb, rfl, _, _⟩ := hrb.shape
        rw [show wantF.length = 9 from rfl] at hrb ⊢
        replace HBxA := Lib.hid (HBxA.out.grow hb)
        replace HRdA := Lib.hid (HRdA.out.grow hb)
        replace HBel := Lib.hid (HBel.out.trans (hb.mono HBel.out.size))
        replace HW := Lib.hid (okBB.grow HW.out hb)
        clear pA0 pA1 pA2 pA3
        have HVB := Lib.hid (okBB.mono hrb (F' := fun _ => True) fun _ _ => trivial)
        clear hrb hb
        obtain ⟨pA0, pA1, pA2, pA3⟩ := HBxA.out.two
        go_wp2_with fail
        refine (model_Same wantF wantF _ _ (fun _ => True) _ HVB.out (okBB.mono HW.out fun _ _ => trivial)).mono ?_
        rintro e wq1 ⟨rfl, hb⟩
        rw [beq_self_eq_true]
        replace HBxA := Lib.hid (HBxA.out.grow hb)
        replace HRdA := Lib.hid (HRdA.out.grow hb)
        replace HBel := Lib.hid (HBel.out.trans (hb.mono HBel.out.size))
        replace HW := Lib.hid (okBB.grow HW.out hb)
        replace HVB := Lib.hid (okBB.grow HVB.out hb)
        clear pA0 pA1 pA2 pA3
        clear hb
        obtain ⟨pA0, pA1, pA2, pA3⟩ := HBxA.out.two
        go_wp2_with fail
        refine (mend_Worst a _ _ _ HRdA.out HG.out.1).mono ?_
        rintro e wq2 ⟨rfl, hb⟩
        rw [HF.out.2.2]
        replace HBxA := Lib.hid (HBxA.out.grow hb)
        replace HRdA := Lib.hid (HRdA.out.grow hb)
        replace HBel := Lib.hid (HBel.out.trans (hb.mono HBel.out.size))
        replace HW := Lib.hid (okBB.grow HW.out hb)
        replace HVB := Lib.hid (okBB.grow HVB.out hb)
        clear pA0 pA1 pA2 pA3
        clear hb
        obtain ⟨pA0, pA1, pA2, pA3⟩ := HBxA.out.two
        go_wp2_with fail
        refine (mend_All a _ _ _ HRdA.out HG.out.1 HG.out.2).mono ?_
        rintro e z3 ⟨v, u, rfl, hr, hu, hb⟩
        obtain ⟨bz3, oz3, cz3, Az3, dz3, rfl, _, _, hcz3, hmz3⟩ := RdA_open hr (by rw [HF.out.1]; exact full_good.1)
        rw [show (mendsTo a 3).ints.length = 0 by rw [HF.out.1, full_good.2]; rfl] at hr ⊢
        have hsA := HBxA.out.lt
        have hrl := hr.lt
        replace HBxA := Lib.hid (HBxA.out.grow hb)
        replace HRdA := Lib.hid (HRdA.out.grow hb)
        replace HBel := Lib.hid (HBel.out.trans (hb.mono HBel.out.size))
        replace HW := Lib.hid (okBB.grow HW.out hb)
        replace HVB := Lib.hid (okBB.grow HVB.out hb)
        clear pA0 pA1 pA2 pA3
        obtain ⟨q0, q1, q2, q3⟩ := HBxA.out.two
        have g0 : BoxAt (set2 z3 waA.heap.size (.slice (some ⟨bz3, oz3, none⟩) 4 cz3) (.slice Az3 0 dz3)) _ _ _ := HBxA.out.put2
        have rn : RdA (set2 z3 waA.heap.size (.slice (some ⟨bz3, oz3, none⟩) 4 cz3) (.slice Az3 0 dz3)) (fun k => k ≠ waA.heap.size) _ _ := (hrl.mono (F' := fun k => k ≠ waA.heap.size) fun k hk => by omega).set2 (b := waA.heap.size) (fun k hk => by omega)
        have eHW := (show RdBB (set2 z3 waA.heap.size (.slice (some ⟨bz3, oz3, none⟩) 4 cz3) (.slice Az3 0 dz3)) _ _ _ from okBB.set2 HW.out (b := waA.heap.size) (fun k hk => by omega))
        have gb := HBel.out.trans (below_set2 (w := z3) (b := waA.heap.size) (v0 := .slice (some ⟨bz3, oz3, none⟩) 4 cz3) (v1 := .slice Az3 0 dz3) (by omega))
        obtain ⟨wz3, hwz3⟩ : ∃ x, set2 z3 waA.heap.size (.slice (some ⟨bz3, oz3, none⟩) 4 cz3) (.slice Az3 0 dz3) = x := ⟨_, rfl⟩
        rw [hwz3] at g0 eHW rn gb
        change (z3.setCell ⟨waA.heap.size, 0, none⟩ (.slice (some ⟨bz3, oz3, none⟩) 4 cz3)).setCell ⟨waA.heap.size, 1, none⟩ (.slice Az3 0 dz3) = wz3 at hwz3
        replace HBxA := Lib.hid g0
        replace HRdA := Lib.hid rn
        replace HW := Lib.hid eHW
        replace HBel := Lib.hid gb
        clear hr hrl hb g0 eHW rn gb hsA
        obtain ⟨pA0, pA1, pA2, pA3⟩ := HBxA.out.two
        rw [HF.out.1] at HRdA
        go_wp2
        go_roundw
        case rel => exact ⟨k + 1, by omega, by go_num, ⟨_, _, HBxA.out, HRdA.out.lt⟩, HW.out, HBel.out⟩
        case measure => simp [intOf]; omega
      have HLr := Lib.hid (((okL okI).grow HL.out HBel.out))
      obtain ⟨b, off, u, rfl, hFb, hcu, hu⟩ := RdL.at_ HLr.out (k := j) (by rw [HLen.out]; exact hlj)
      obtain ⟨n, hn⟩ : ∃ n, ds[j]'(by rw [HLen.out]; exact hlj) = n := ⟨_, rfl⟩
      rw [hn] at hu
      obtain rfl : u = .int .i64 n := hu
      have HN := Lib.hid (show ds.getD j 0 = n by rw [List.getD_eq_getElem?_getD, List.getElem?_eq_getElem (by rw [HLen.out]; exact hlj), hn]; rfl)
      clear hn HLr
      obtain ⟨pA0, pA1, pA2, pA3⟩ := HBxA.out.two
      have hbj : decide ((j : Int) < 3) = true := by simp; omega
      by_cases h1 : n < 0
      · go_wp2
        go_ret
        exact ⟨rfl, HBel.out⟩
      by_cases h2 : 4 ≤ n
      · go_wp2
        go_ret
        exact ⟨rfl, HBel.out⟩
      have HI := Lib.hid (show 0 ≤ n ∧ n < 4 by omega)
      have e1 : decide (n < 0) = false := by simpa using h1
      have e2 : decide (4 ≤ n) = false := by simpa using h2
      obtain ⟨q1, q2⟩ := mul_rot HI.out.1 HI.out.2 hlj
      have HX := Lib.hid (rotTo_next ds m j)
      rw [HN.out] at HX
      go_wp2_with fail
      clear h1 h2 e1 e2 hcu
      refine (play_Do (rotTo ds m j) (stR (3 * n + j) m) _ _ _ _ HRdA.out (rd_stR _ (by have := HI.out; omega)) HG.out.1 HG.out.2 (by have := HI.out; show -9223372036854775808 ≤ 3 * n + j; omega)).mono ?_
      rintro e z4 ⟨v, rfl, hr, hb⟩
      rw [stepP_rot _ m HI.out.1 hlj] at hr ⊢
      rw [← HX.out] at hr
      generalize (rotA (rotTo ds m j) n j m).2 = er at *
      obtain ⟨bz4, oz4, cz4, Az4, dz4, rfl, _, _, hcz4, hmz4⟩ := RdA_open hr (rotTo_good ds m (j + 1)).1
      rw [show (rotTo ds m (j + 1)).ints.length = 0 by rw [(rotTo_good ds m (j + 1)).2]; rfl] at hr ⊢
      have hsA := HBxA.out.lt
      have hrl := hr.lt
      replace HBxA := Lib.hid (HBxA.out.grow hb)
      replace HRdA := Lib.hid (HRdA.out.grow hb)
      replace HBel := Lib.hid (HBel.out.trans (hb.mono HBel.out.size))
      replace HW := Lib.hid (okBB.grow HW.out hb)
      clear pA0 pA1 pA2 pA3
      obtain ⟨q0, q1, q2, q3⟩ := HBxA.out.two
      have g0 : BoxAt (set2 z4 waA.heap.size (.slice (some ⟨bz4, oz4, none⟩) 4 cz4) (.slice Az4 0 dz4)) _ _ _ := HBxA.out.put2
      have rn : RdA (set2 z4 waA.heap.size (.slice (some ⟨bz4, oz4, none⟩) 4 cz4) (.slice Az4 0 dz4)) (fun k => k ≠ waA.heap.size) _ _ := (hrl.mono (F' := fun k => k ≠ waA.heap.size) fun k hk => by omega).set2 (b := waA.heap.size) (fun k hk => by omega)
      have eHW := (show RdBB (set2 z4 waA.heap.size (.slice (some ⟨bz4, oz4, none⟩) 4 cz4) (.slice Az4 0 dz4)) _ _ _ from okBB.set2 HW.out (b := waA.heap.size) (fun k hk => by omega))
      have gb := HBel.out.trans (below_set2 (w := z4) (b := waA.heap.size) (v0 := .slice (some ⟨bz4, oz4, none⟩) 4 cz4) (v1 := .slice Az4 0 dz4) (by omega))
      obtain ⟨wz4, hwz4⟩ : ∃ x, set2 z4 waA.heap.size (.slice (some ⟨bz4, oz4, none⟩) 4 cz4) (.slice Az4 0 dz4) = x := ⟨_, rfl⟩
      rw [hwz4] at g0 eHW rn gb
      change (z4.setCell ⟨waA.heap.size, 0, none⟩ (.slice (some ⟨bz4, oz4, none⟩) 4 cz4)).setCell ⟨waA.heap.size, 1, none⟩ (.slice Az4 0 dz4) = wz4 at hwz4
      replace HBxA := Lib.hid g0
      replace HRdA := Lib.hid rn
      replace HW := Lib.hid eHW
      replace HBel := Lib.hid gb
      clear hr hrl hb g0 eHW rn gb hsA
      obtain ⟨pA0, pA1, pA2, pA3⟩ := HBxA.out.two
      go_wp2
      go_roundw
      case rel =>
        refine ⟨j + 1, by omega, by go_num, fun i hi => ?_, ⟨_, _, HBxA.out, HRdA.out.lt⟩, HW.out, HBel.out⟩
        by_cases hij : i < j
        · exact HDS.out i hij
        · obtain rfl : i = j := by omega
          rw [HN.out]
          exact HI.out
      case measure => simp [intOf]; omega
namespace topRotDone
open Go.ChangeShapes Go.WideShapes Go.ChangeAt Go.RowKit M
open Go.ChangeMaps (open_string shut_string)
set_option linter.unusedVariables false
set_option maxRecDepth 100000 in
theorem contract (H : Type) (enc : TypeId × Value → H) (W : World) (base : Nat) (args : Array Value) (ds gs : List (DataW H)) (before : List MemPlace)
    (hval0 : ∀ (j : Nat) t v, Tryd.f8.params[j]? = some t → args[j]? = some v → Value.okWide Tryd.prog W .any base t v)
    (hW : DataW.Whole enc Tryd.prog Tryd.f8.params.toList Rows.topRotSpec.vars false W args.toList ds gs before) (hL : laidMetH Tryd.prog Rows.textTellsRow.laid W) (hs : W.ShapedOpen Tryd.prog) :
    Calls Tryd.prog 8 args W fun e W' => ∃ v, e = .returned v ∧ Rows.topRotSpec.post enc Tryd.prog Tryd.f8 false true false false W args v W' := by
  have hval : ∀ (j : Nat) t v, Tryd.f8.params[j]? = some t → args[j]? = some v → Value.okWide Tryd.prog W .any base t v := hval0
  have hW' := hW
  obtain ⟨p, q, hA0, hV, rfl, hfz, hnd⟩ := hW
  have hA : DataW.TrodAll enc Tryd.prog W 0 (fun _ => true) true Tryd.f8.params.toList args.toList ds p := hA0
  rw [Tryd.params8] at hA hval
  obtain ⟨v0, vs0, d0, ds0, p0, q0, hargs, rfl, rfl, h0, r0⟩ := trodAll_cons hA
  obtain ⟨v1, vs1, d1, ds1, p1, q1, rfl, rfl, rfl, h1, r1⟩ := trodAll_cons r0
  obtain ⟨v2, vs2, d2, ds2, p2, q2, rfl, rfl, rfl, h2, r2⟩ := trodAll_cons r1
  obtain ⟨rfl, rfl, rfl⟩ := trodAll_nil r2
  obtain rfl : args = #[v0, v1, v2] := by cases args; simp_all
  obtain ⟨rfl, rfl⟩ := trodVars_none hV
  obtain ⟨a0, len0, cap0, rfl⟩ := okWide_slice Tryd.underlying53 (hval 0 53 v0 rfl rfl)
  have k0 := h0
  have lt0 : ∀ x ∈ p0, x.block < W.heap.size := by obtain ⟨m, hm⟩ := k0; exact DataW.trod_lt m _ _ _ hm
  obtain ⟨fuel0, hf0⟩ := h0
  obtain ⟨b0, w0, l0⟩ := M.open_Is Tryd.underlying53 Tryd.underlying3 (by kernel_rfl) hf0
  obtain ⟨a1, rfl, rfl, rfl, w1⟩ := open_int Tryd.underlying3 (hval 1 3 v1 rfl rfl) h1
  have b1 := bounds_i64 w1
  obtain ⟨a2, rfl, rfl, rfl, w2⟩ := open_int Tryd.underlying3 (hval 2 3 v2 rfl rfl) h2
  have b2 := bounds_i64 w2
  clear hA0 hval0
  refine (topRot_walk b0 _ a1 a2 W (vars_of hL hs) w0 b1.1 b1.2 b2.1 b2.2).mono fun e W' ⟨he, bel⟩ => ?_
  subst he
  exact ⟨_, rfl, _, _, _, [], _, [], hW', trodAll_mk1 (shut_bool Tryd.underlying4 _), (trodAll_cons_mk (Below.trod laidOut (by kernel_rfl) (of_decide_eq_true (by kernel_rfl)) k0 bel lt0) (trodAll_cons_mk (shut_int Tryd.underlying3 w1) (trodAll_cons_mk (shut_int Tryd.underlying3 w2) trodAll_mk0))), rfl, bel.frame _, fun h => by cases h⟩
set_option maxRecDepth 100000 in
theorem reads (os : Os) {H : Type} (enc : TypeId × Value → H) : ∃ places, DataW.whole enc Tryd.prog ((laidWorld os).forCall (fun _ _ => 0) ⟨#[], #[.slice none 0 0, .int .i64 0, .int .i64 0], []⟩).memory Tryd.f8.params.toList Rows.topRotSpec.vars false (#[.slice none 0 0, .int .i64 0, .int .i64 0] : Array Value).toList 8 = some ([.nil, .lit (.int .i64 0), .lit (.int .i64 0)], [], places) :=
  ⟨[], by kernel_rfl⟩
set_option maxRecDepth 100000 in
theorem lifted (os : Os) (started : os.Started) (H : Type) (enc : TypeId × Value → H) (F : Stop.Interp) :
    ReturnsInHanded {} Tryd.checked os 8 .any ((OpenSpec.ofChange Rows.topRotSpec).preRow enc Tryd.prog Tryd.f8 Rows.topRotRow.domain false Rows.topRotRow.laid) (((OpenSpec.ofChange Rows.topRotSpec).at F).post enc Tryd.prog Tryd.f8 false true false false) := by
  obtain ⟨places, hx⟩ := reads os enc
  refine returnsInHanded_of_row (C := Tryd.checked) (s := OpenSpec.ofChange Rows.topRotSpec) own started (by kernel_rfl) Tryd.func8
    (witness_row_atRef (enc := enc) (C := Tryd.checked) false (laidWorld os) #[.slice none 0 0, .int .i64 0, .int .i64 0] rfl (by kernel_rfl) (by kernel_rfl) (by kernel_rfl)
      (OpenSpec.preRow_of_cond 8 hx (by kernel_rfl) (fun k hk => by cases hk) (by kernel_rfl) (laid_metH os _))) ?_
  intro W base args ds gs before hval hW _ hcond _ hL hs _
  exact contract H enc W base args ds gs before hval hW hL hs
theorem said : Rows.topRotRow.holds Tryd.pinned (OpenSpec.ofChange Rows.topRotSpec) :=
  OpenClaim.holds_of_cond 8 Tryd.f8 rfl rfl rfl rfl rfl rfl rfl ⟨rfl, rfl, rfl, rfl, rfl⟩ rfl rfl rfl rfl rfl (by kernel_rfl) Tryd.func8 (by kernel_rfl)
    (of_decide_eq_true (by kernel_rfl)) (by unfold Func.isWrapper; first | (rw [if_pos (by decide +kernel)]; kernel_rfl) | (rw [if_neg (by decide +kernel)]; exact ⟨rfl, rfl⟩))
    (fun os started H enc _ F => by rw [OpenClaim.pre_eq_preRow]; exact lifted os started H enc F)
theorem plain (f : FuncId) (fn : Func) (hf : Tryd.pinned.checked.prog.funcNamed Rows.topRotRow.func = some f) (hfn : Tryd.pinned.checked.prog.funcs[f]? = some fn) :
    true = Tryd.pinned.checked.prog.looks [] ∧ ∀ (j : Nat) t, fn.params[j]? = some t → Tryd.pinned.checked.prog.wantsStandIn t = false := by
  obtain rfl : f = 8 := Option.some.inj ((show Tryd.prog.funcNamed Rows.topRotRow.func = some 8 by kernel_rfl).symm.trans hf) |>.symm
  obtain rfl : fn = Tryd.f8 := (Option.some.inj (Tryd.func8.symm.trans hfn)).symm
  refine ⟨by kernel_rfl, fun j t ht => ?_⟩
  rw [Tryd.params8] at ht
  have hm : t ∈ ([53, 3, 3] : List TypeId) := by simpa using Array.mem_of_getElem? ht
  have hall : (([53, 3, 3] : List TypeId).all fun u => !Tryd.prog.wantsStandIn u) = true := by kernel_rfl
  exact (show Tryd.prog.wantsStandIn t = false by simpa using List.all_eq_true.1 hall t hm)
/-- The card. -/
theorem proved : Rows.TopRotCardSaid :=
  Claim7.holds_tied_plain_at .later [] _ _ _ _ said (fun _ h => by cases h) (by kernel_rfl) (fun _ h => by cases h) topRot_row_tie rfl ⟨rfl, rfl⟩ (by kernel_rfl) rfl plain (by kernel_rfl)
end topRotDone
end Go.Proofs.YtdcmbdghnkgghaaDoor

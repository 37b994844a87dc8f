/- TopDisks: the walk: for every input the call returns true. -/
import Derived.Test.YtdcmbdghnkgghaaDoorT6
import Derived.Test.YtdcmbdghnkgghaaDoorTopTwo
namespace Go.Proofs.YtdcmbdghnkgghaaDoor
set_option linter.unusedVariables false
open Go Go.RowKit M
theorem arr_ext {a b : Arr} (h : a.disks = b.disks) (h2 : a.ints = b.ints) : a = b := by
  cases a; cases b; cases h; cases h2; rfl
theorem g_mend : ∀ n : Fin 4, (mendsTo (goneA fullA n.val).1 3).disks = fullA.disks ∧ (mendsTo (goneA fullA n.val).1 3).ints.length = 0 ∧ blocksA (goneA fullA n.val).1.disks = (wantF, 0) := by decide +kernel
theorem f_worst : worstA fullA.disks = 0 := by decide +kernel
theorem disk_facts {n : Int} (h : 0 ≤ n ∧ n < 4) : mendsTo (goneA fullA n).1 3 = fullA ∧ blocksA (goneA fullA n).1.disks = (wantF, 0) := by
  obtain ⟨i, rfl⟩ : ∃ i : Nat, n = i := ⟨n.toNat, by omega⟩
  have h4 := g_mend ⟨i, by omega⟩
  exact ⟨arr_ext h4.1 ((List.eq_nil_of_length_eq_zero h4.2.1).trans full_good.2.symm), h4.2.2⟩
set_option maxRecDepth 100000 in
set_option maxHeartbeats 3200000 in
theorem topDisks_walk (ns : List Int) (v : Value) (w : World) (hv : Vars w) (h : RdL RI w (fun _ => True) v ns) :
    Calls Tryd.prog 7 #[v] w fun e w' => e = .returned (.bool true) ∧ Below w.heap.size w w' := by
  obtain ⟨Al, cl, rfl, hlc, hm⟩ := h.shape
  unfold maxLen at hm
  have HL := Lib.hid ((okL okI).lt h)
  have HV := Lib.hid hv
  have HBel := Lib.hid (Below.refl w.heap.size w)
  clear hv h
  go_enter Tryd.func7, Tryd.ntmps7
  go_wp2_with fail
  refine (top_alive _ HV.out).mono ?_
  rintro e w0 ⟨rfl, hb⟩
  replace HBel := Lib.hid (HBel.out.trans (hb.mono HBel.out.size))
  replace HV := Lib.hid (HV.out.grow hb)
  clear hb
  by_cases h30 : (30 : Int) < ns.length
  · go_wp2
    go_ret
    exact ⟨rfl, HBel.out⟩
  have e30 : decide ((30 : Int) < ns.length) = false := by simpa using h30
  have hn30 : ns.length ≤ 30 := by omega
  go_wp2_with fail
  clear h30 e30
  refine (top_full _ HV.out).mono ?_
  rintro e waA ⟨vA, uF, rfl, hr, hu, hb⟩
  obtain ⟨Aw, cw, rfl, _, _⟩ := hu.shape
  rw [show wantF.length = 9 from rfl] at hu ⊢
  obtain ⟨bA, oA, cA, AA, dA, rfl, _, _, hcA, hmA⟩ := RdA_open hr full_good.1
  rw [show fullA.ints.length = 0 by rw [full_good.2]; rfl] at hr ⊢
  have ord0A : w.heap.size ≤ waA.heap.size := Nat.le_trans HBel.out.size hb.size
  have hal := below_alloc waA (.cells #[.slice (some ⟨bA, oA, none⟩) 4 cA, .slice AA 0 dA] 37)
  have hX := boxAt_new waA 37 [.slice (some ⟨bA, oA, none⟩) 4 cA, .slice AA 0 dA]
  have hbb := hb.trans (hal.mono hb.size)
  have hrl := hr.lt.mono (F' := fun k => w.heap.size ≤ k ∧ k < waA.heap.size) fun k hk => by have := HBel.out.size;  omega
  have HRdA := Lib.hid (hrl.grow hal)
  replace HBel := Lib.hid (HBel.out.trans (hbb.mono HBel.out.size))
  have HW := Lib.hid (okBB.mono (okBB.grow (okBB.lt hu) hal) (F' := fun k => k < waA.heap.size) fun k hk => hk.2)
  obtain ⟨wA, hwA⟩ : ∃ x, waA.alloc (.cells #[.slice (some ⟨bA, oA, none⟩) 4 cA, .slice AA 0 dA] 37) = x := ⟨_, rfl⟩
  change BoxAt (waA.alloc (.cells #[.slice (some ⟨bA, oA, none⟩) 4 cA, .slice AA 0 dA] 37)) _ _ _ at hX
  rw [hwA] at hX HRdA HBel    HW
  have HBxA := Lib.hid hX
  clear hal hX hbb hr hb hrl
  obtain ⟨pA0, pA1, pA2, pA3⟩ := HBxA.out.two
  go_wp2_with fail
  clear hwA
  clear hu pA0 pA1 pA2 pA3
  go_loopw [26] (fun i wr => ∃ k : Nat, k ≤ ns.length ∧ i = .int .i64 k ∧ (∃ dv iv, BoxAt wr waA.heap.size 37 [dv, iv] ∧ RdA wr (fun q => q ≠ waA.heap.size ∧ q < wr.heap.size) (.agg #[dv, iv]) fullA) ∧ RdBB wr (fun k => k < waA.heap.size) (.slice Aw 9 cw) wantF ∧ Below w.heap.size w wr) (fun i _ => ns.length - (intOf i).toNat)
  case atStart => exact ⟨0, Nat.zero_le _, rfl, ⟨_, _, HBxA.out, HRdA.out.mono fun k hk => by have := HBxA.out.lt; omega⟩, HW.out, HBel.out⟩
  case round =>
    clear HBxA HRdA HBel HW HV
    obtain ⟨k, hk, rfl, ⟨dv, iv, hA, hR⟩, hw, hB⟩ := hrel
    obtain ⟨b1, o1, c1, A1, c2, hag, _, _, hc11, hc12⟩ := RdA_open hR full_good.1
    injection hag with hag
    simp only [Array.mk.injEq, List.cons.injEq, and_true] at hag
    obtain ⟨rfl, rfl⟩ := hag
    rw [show fullA.ints.length = 0 by rw [full_good.2]; rfl] at hA hR
    have HBxA := Lib.hid hA
    have HRdA := Lib.hid hR
    have HW := Lib.hid hw
    have HBel := Lib.hid hB
    have hrA := hA.lt
    have HLr := Lib.hid (((okL okI).grow HL.out hB))
    clear hA hR hw hB
    obtain ⟨pA0, pA1, pA2, pA3⟩ := HBxA.out.two
    by_cases hlt : k < ns.length
    · obtain ⟨b, off, u, rfl, hFb, hcu, hu⟩ := RdL.at_ HLr.out (k := k) hlt
      obtain ⟨n, hn⟩ : ∃ n, ns[k] = n := ⟨_, rfl⟩
      rw [hn] at hu
      obtain rfl : u = .int .i64 n := hu
      clear hn HLr
      by_cases h1 : n < 0
      · go_wp2
        go_ret
        exact ⟨rfl, HBel.out⟩
      by_cases h2 : 4 ≤ n
      · go_wp2
        go_ret
        exact ⟨rfl, HBel.out⟩
      have HIN := Lib.hid (show 0 ≤ n ∧ n < 4 by omega)
      have e1 : decide (n < 0) = false := by simpa using h1
      have e2 : decide (4 ≤ n) = false := by simpa using h2
      go_wp2_with fail
      clear h1 h2 e1 e2 hcu
      have HG := Lib.hid (show Shape (goneA fullA n).1.disks ∧ (goneA fullA n).1.ints = [] from stepP_good full_good.1 full_good.2 (stG n))
      have HD := Lib.hid (disk_facts HIN.out)
      have HGE := Lib.hid (gone_ok fullA HIN.out)
      refine (play_Do fullA (stG n) _ _ _ _ HRdA.out (rd_stG _ (by have := HIN.out; omega)) full_good.1 full_good.2 (by have := HIN.out; show -9223372036854775808 ≤ n; omega)).mono ?_
      rintro e waX ⟨vX, rfl, hr, hb⟩
      rw [stepP_gone] at hr ⊢
      rw [HGE.out]
      obtain ⟨bX, oX, cX, AX, dX, rfl, _, _, hcX, hmX⟩ := RdA_open hr HG.out.1
      rw [show (goneA fullA n).1.ints.length = 0 by rw [HG.out.2]; rfl] at hr ⊢
      have ord0X : w.heap.size ≤ waX.heap.size := Nat.le_trans HBel.out.size hb.size
      have ordAX : waA.heap.size < waX.heap.size := Nat.lt_of_lt_of_le HBxA.out.lt hb.size
      have hal := below_alloc waX (.cells #[.slice (some ⟨bX, oX, none⟩) 4 cX, .slice AX 0 dX] 37)
      have hX := boxAt_new waX 37 [.slice (some ⟨bX, oX, none⟩) 4 cX, .slice AX 0 dX]
      have hbb := hb.trans (hal.mono hb.size)
      have hrl := hr.lt.mono (F' := fun k => waA.heap.size < k ∧ k < waX.heap.size) fun k hk => by have := HBel.out.size; have := HBxA.out.lt; omega
      have HRdX := Lib.hid (hrl.grow hal)
      replace HBxA := Lib.hid (HBxA.out.grow hbb)
      replace HRdA := Lib.hid (HRdA.out.grow hbb)
      replace HBel := Lib.hid (HBel.out.trans (hbb.mono HBel.out.size))
      replace HW := Lib.hid (okBB.grow HW.out hbb)
      clear pA0 pA1 pA2 pA3
      obtain ⟨wX, hwX⟩ : ∃ x, waX.alloc (.cells #[.slice (some ⟨bX, oX, none⟩) 4 cX, .slice AX 0 dX] 37) = x := ⟨_, rfl⟩
      change BoxAt (waX.alloc (.cells #[.slice (some ⟨bX, oX, none⟩) 4 cX, .slice AX 0 dX] 37)) _ _ _ at hX
      rw [hwX] at hX HRdX HBel HBxA HRdA HW
      have HBxX := Lib.hid hX
      clear hal hX hbb hr hb hrl
      obtain ⟨pA0, pA1, pA2, pA3⟩ := HBxA.out.two
      obtain ⟨pX0, pX1, pX2, pX3⟩ := HBxX.out.two
      go_wp2_with fail
      clear hwX
      refine (array_Blocks (goneA fullA n).1 _ _ _ HRdX.out HG.out.1).mono ?_
      rintro e wb ⟨vb, rfl, hrb, hb⟩
      rw [HD.out.2] at hrb ⊢
      obtain ⟨Ab, cb, rfl, _, _⟩ := hrb.shape
      rw [show wantF.length = 9 from rfl] at hrb ⊢
      replace HBxA := Lib.hid (HBxA.out.grow hb)
      replace HBxX := Lib.hid (HBxX.out.grow hb)
      replace HRdA := Lib.hid (HRdA.out.grow hb)
      replace HRdX := Lib.hid (HRdX.out.grow hb)
      replace HBel := Lib.hid (HBel.out.trans (hb.mono HBel.out.size))
      replace HW := Lib.hid (okBB.grow HW.out hb)
      clear pA0 pA1 pA2 pA3 pX0 pX1 pX2 pX3
      have HVB := Lib.hid (okBB.mono hrb (F' := fun _ => True) fun _ _ => trivial)
      clear hrb hb
      obtain ⟨pA0, pA1, pA2, pA3⟩ := HBxA.out.two
      obtain ⟨pX0, pX1, pX2, pX3⟩ := HBxX.out.two
      go_wp2_with fail
      refine (model_Same wantF wantF _ _ (fun _ => True) _ HVB.out (okBB.mono HW.out fun _ _ => trivial)).mono ?_
      rintro e wq1 ⟨rfl, hb⟩
      rw [beq_self_eq_true]
      replace HBxA := Lib.hid (HBxA.out.grow hb)
      replace HBxX := Lib.hid (HBxX.out.grow hb)
      replace HRdA := Lib.hid (HRdA.out.grow hb)
      replace HRdX := Lib.hid (HRdX.out.grow hb)
      replace HBel := Lib.hid (HBel.out.trans (hb.mono HBel.out.size))
      replace HW := Lib.hid (okBB.grow HW.out hb)
      replace HVB := Lib.hid (okBB.grow HVB.out hb)
      clear pA0 pA1 pA2 pA3 pX0 pX1 pX2 pX3
      clear hb
      obtain ⟨pA0, pA1, pA2, pA3⟩ := HBxA.out.two
      obtain ⟨pX0, pX1, pX2, pX3⟩ := HBxX.out.two
      go_wp2_with fail
      refine (mend_All (goneA fullA n).1 _ _ _ HRdX.out HG.out.1 HG.out.2).mono ?_
      rintro e z2 ⟨v, u, rfl, hr, hu, hb⟩
      obtain ⟨bz2, oz2, cz2, Az2, dz2, rfl, _, _, hcz2, hmz2⟩ := RdA_open hr (by rw [HD.out.1]; exact full_good.1)
      rw [show (mendsTo (goneA fullA n).1 3).ints.length = 0 by rw [HD.out.1, full_good.2]; rfl] at hr ⊢
      have hsA := HBxA.out.lt
      have hsX := HBxX.out.lt
      have hrl := hr.lt
      replace HBxA := Lib.hid (HBxA.out.grow hb)
      replace HBxX := Lib.hid (HBxX.out.grow hb)
      replace HRdA := Lib.hid (HRdA.out.grow hb)
      replace HRdX := Lib.hid (HRdX.out.grow hb)
      replace HBel := Lib.hid (HBel.out.trans (hb.mono HBel.out.size))
      replace HW := Lib.hid (okBB.grow HW.out hb)
      replace HVB := Lib.hid (okBB.grow HVB.out hb)
      clear pA0 pA1 pA2 pA3 pX0 pX1 pX2 pX3
      obtain ⟨q0, q1, q2, q3⟩ := HBxA.out.two
      have g0 : BoxAt (set2 z2 waA.heap.size (.slice (some ⟨bz2, oz2, none⟩) 4 cz2) (.slice Az2 0 dz2)) _ _ _ := HBxA.out.put2
      have gX : BoxAt (set2 z2 waA.heap.size (.slice (some ⟨bz2, oz2, none⟩) 4 cz2) (.slice Az2 0 dz2)) _ _ _ := HBxX.out.far2 (by omega)
      have rX : RdA (set2 z2 waA.heap.size (.slice (some ⟨bz2, oz2, none⟩) 4 cz2) (.slice Az2 0 dz2)) _ _ _ := HRdX.out.set2 (b := waA.heap.size) (fun k hk => by omega)
      have rn : RdA (set2 z2 waA.heap.size (.slice (some ⟨bz2, oz2, none⟩) 4 cz2) (.slice Az2 0 dz2)) (fun k => waA.heap.size < k ∧ k < z2.heap.size) _ _ := (hrl.mono (F' := fun k => waA.heap.size < k ∧ k < z2.heap.size) fun k hk => by omega).set2 (b := waA.heap.size) (fun k hk => by omega)
      have eHW := (show RdBB (set2 z2 waA.heap.size (.slice (some ⟨bz2, oz2, none⟩) 4 cz2) (.slice Az2 0 dz2)) _ _ _ from okBB.set2 HW.out (b := waA.heap.size) (fun k hk => by omega))
      have gb := HBel.out.trans (below_set2 (w := z2) (b := waA.heap.size) (v0 := .slice (some ⟨bz2, oz2, none⟩) 4 cz2) (v1 := .slice Az2 0 dz2) (by omega))
      obtain ⟨wz2, hwz2⟩ : ∃ x, set2 z2 waA.heap.size (.slice (some ⟨bz2, oz2, none⟩) 4 cz2) (.slice Az2 0 dz2) = x := ⟨_, rfl⟩
      rw [hwz2] at g0 gX rX eHW rn gb
      change (z2.setCell ⟨waA.heap.size, 0, none⟩ (.slice (some ⟨bz2, oz2, none⟩) 4 cz2)).setCell ⟨waA.heap.size, 1, none⟩ (.slice Az2 0 dz2) = wz2 at hwz2
      replace HBxA := Lib.hid g0
      replace HRdA := Lib.hid rn
      replace HBxX := Lib.hid gX
      replace HRdX := Lib.hid rX
      replace HW := Lib.hid eHW
      replace HBel := Lib.hid gb
      clear hr hrl hb g0 gX rX eHW rn gb hsA hsX
      obtain ⟨pA0, pA1, pA2, pA3⟩ := HBxA.out.two
      obtain ⟨pX0, pX1, pX2, pX3⟩ := HBxX.out.two
      rw [HD.out.1] at HRdA
      go_wp2
      go_roundw
      case rel => exact ⟨k + 1, by omega, by go_num, ⟨_, _, HBxA.out, HRdA.out.lt.mono fun q hq => ⟨by omega, hq.2⟩⟩, HW.out, HBel.out⟩
      case measure => simp [intOf]; omega
    · obtain rfl : k = ns.length := by omega
      go_wp2_with fail
      refine (array_Blocks fullA _ _ _ HRdA.out full_good.1).mono ?_
      rintro e wb ⟨vb, rfl, hrb, hb⟩
      rw [show blocksA fullA.disks = (wantF, 0) from bF] at hrb ⊢
      obtain ⟨Ab, cb, rfl, _, _⟩ := hrb.shape
      rw [show wantF.length = 9 from rfl] at hrb ⊢
      replace HBxA := Lib.hid (HBxA.out.grow hb)
      replace HRdA := Lib.hid (HRdA.out.grow hb)
      replace HBel := Lib.hid (HBel.out.trans (hb.mono HBel.out.size))
      replace HW := Lib.hid (okBB.grow HW.out hb)
      clear pA0 pA1 pA2 pA3
      have HVB := Lib.hid (okBB.mono hrb (F' := fun _ => True) fun _ _ => trivial)
      clear hrb hb
      obtain ⟨pA0, pA1, pA2, pA3⟩ := HBxA.out.two
      go_wp2_with fail
      refine (model_Same wantF wantF _ _ (fun _ => True) _ HVB.out (okBB.mono HW.out fun _ _ => trivial)).mono ?_
      rintro e wq11 ⟨rfl, hb⟩
      rw [beq_self_eq_true]
      replace HBxA := Lib.hid (HBxA.out.grow hb)
      replace HRdA := Lib.hid (HRdA.out.grow hb)
      replace HBel := Lib.hid (HBel.out.trans (hb.mono HBel.out.size))
      replace HW := Lib.hid (okBB.grow HW.out hb)
      replace HVB := Lib.hid (okBB.grow HVB.out hb)
      clear pA0 pA1 pA2 pA3
      clear hb
      obtain ⟨pA0, pA1, pA2, pA3⟩ := HBxA.out.two
      go_wp2_with fail
      refine (mend_Worst fullA _ _ _ HRdA.out full_good.1).mono ?_
      rintro e wq12 ⟨rfl, hb⟩
      rw [f_worst]
      replace HBxA := Lib.hid (HBxA.out.grow hb)
      replace HRdA := Lib.hid (HRdA.out.grow hb)
      replace HBel := Lib.hid (HBel.out.trans (hb.mono HBel.out.size))
      replace HW := Lib.hid (okBB.grow HW.out hb)
      replace HVB := Lib.hid (okBB.grow HVB.out hb)
      clear pA0 pA1 pA2 pA3
      clear hb
      obtain ⟨pA0, pA1, pA2, pA3⟩ := HBxA.out.two
      go_wp2
      go_ret
      exact ⟨rfl, HBel.out⟩
namespace topDisksDone
open Go.ChangeShapes Go.WideShapes Go.ChangeAt Go.RowKit M
open Go.ChangeMaps (open_string shut_string)
set_option linter.unusedVariables false
set_option maxRecDepth 100000 in
theorem contract (H : Type) (enc : TypeId × Value → H) (W : World) (base : Nat) (args : Array Value) (ds gs : List (DataW H)) (before : List MemPlace)
    (hval0 : ∀ (j : Nat) t v, Tryd.f7.params[j]? = some t → args[j]? = some v → Value.okWide Tryd.prog W .any base t v)
    (hW : DataW.Whole enc Tryd.prog Tryd.f7.params.toList Rows.topDisksSpec.vars false W args.toList ds gs before) (hL : laidMetH Tryd.prog Rows.textTellsRow.laid W) (hs : W.ShapedOpen Tryd.prog) :
    Calls Tryd.prog 7 args W fun e W' => ∃ v, e = .returned v ∧ Rows.topDisksSpec.post enc Tryd.prog Tryd.f7 false true false false W args v W' := by
  have hval : ∀ (j : Nat) t v, Tryd.f7.params[j]? = some t → args[j]? = some v → Value.okWide Tryd.prog W .any base t v := hval0
  have hW' := hW
  obtain ⟨p, q, hA0, hV, rfl, hfz, hnd⟩ := hW
  have hA : DataW.TrodAll enc Tryd.prog W 0 (fun _ => true) true Tryd.f7.params.toList args.toList ds p := hA0
  rw [Tryd.params7] at hA hval
  obtain ⟨v0, vs0, d0, ds0, p0, q0, hargs, rfl, rfl, h0, r0⟩ := trodAll_cons hA
  obtain ⟨rfl, rfl, rfl⟩ := trodAll_nil r0
  obtain rfl : args = #[v0] := by cases args; simp_all
  obtain ⟨rfl, rfl⟩ := trodVars_none hV
  obtain ⟨a0, len0, cap0, rfl⟩ := okWide_slice Tryd.underlying53 (hval 0 53 v0 rfl rfl)
  have k0 := h0
  have lt0 : ∀ x ∈ p0, x.block < W.heap.size := by obtain ⟨m, hm⟩ := k0; exact DataW.trod_lt m _ _ _ hm
  obtain ⟨fuel0, hf0⟩ := h0
  obtain ⟨b0, w0, l0⟩ := M.open_Is Tryd.underlying53 Tryd.underlying3 (by kernel_rfl) hf0
  clear hA0 hval0
  refine (topDisks_walk b0 _ W (vars_of hL hs) w0).mono fun e W' ⟨he, bel⟩ => ?_
  subst he
  exact ⟨_, rfl, _, _, _, [], _, [], hW', trodAll_mk1 (shut_bool Tryd.underlying4 _), (trodAll_cons_mk (Below.trod laidOut (by kernel_rfl) (of_decide_eq_true (by kernel_rfl)) k0 bel lt0) trodAll_mk0), rfl, bel.frame _, fun h => by cases h⟩
set_option maxRecDepth 100000 in
theorem reads (os : Os) {H : Type} (enc : TypeId × Value → H) : ∃ places, DataW.whole enc Tryd.prog ((laidWorld os).forCall (fun _ _ => 0) ⟨#[], #[.slice none 0 0], []⟩).memory Tryd.f7.params.toList Rows.topDisksSpec.vars false (#[.slice none 0 0] : Array Value).toList 8 = some ([.nil], [], places) :=
  ⟨[], by kernel_rfl⟩
set_option maxRecDepth 100000 in
theorem lifted (os : Os) (started : os.Started) (H : Type) (enc : TypeId × Value → H) (F : Stop.Interp) :
    ReturnsInHanded {} Tryd.checked os 7 .any ((OpenSpec.ofChange Rows.topDisksSpec).preRow enc Tryd.prog Tryd.f7 Rows.topDisksRow.domain false Rows.topDisksRow.laid) (((OpenSpec.ofChange Rows.topDisksSpec).at F).post enc Tryd.prog Tryd.f7 false true false false) := by
  obtain ⟨places, hx⟩ := reads os enc
  refine returnsInHanded_of_row (C := Tryd.checked) (s := OpenSpec.ofChange Rows.topDisksSpec) own started (by kernel_rfl) Tryd.func7
    (witness_row_atRef (enc := enc) (C := Tryd.checked) false (laidWorld os) #[.slice none 0 0] rfl (by kernel_rfl) (by kernel_rfl) (by kernel_rfl)
      (OpenSpec.preRow_of_cond 8 hx (by kernel_rfl) (fun k hk => by cases hk) (by kernel_rfl) (laid_metH os _))) ?_
  intro W base args ds gs before hval hW _ hcond _ hL hs _
  exact contract H enc W base args ds gs before hval hW hL hs
theorem said : Rows.topDisksRow.holds Tryd.pinned (OpenSpec.ofChange Rows.topDisksSpec) :=
  OpenClaim.holds_of_cond 7 Tryd.f7 rfl rfl rfl rfl rfl rfl rfl ⟨rfl, rfl, rfl, rfl, rfl⟩ rfl rfl rfl rfl rfl (by kernel_rfl) Tryd.func7 (by kernel_rfl)
    (of_decide_eq_true (by kernel_rfl)) (by unfold Func.isWrapper; first | (rw [if_pos (by decide +kernel)]; kernel_rfl) | (rw [if_neg (by decide +kernel)]; exact ⟨rfl, rfl⟩))
    (fun os started H enc _ F => by rw [OpenClaim.pre_eq_preRow]; exact lifted os started H enc F)
theorem plain (f : FuncId) (fn : Func) (hf : Tryd.pinned.checked.prog.funcNamed Rows.topDisksRow.func = some f) (hfn : Tryd.pinned.checked.prog.funcs[f]? = some fn) :
    true = Tryd.pinned.checked.prog.looks [] ∧ ∀ (j : Nat) t, fn.params[j]? = some t → Tryd.pinned.checked.prog.wantsStandIn t = false := by
  obtain rfl : f = 7 := Option.some.inj ((show Tryd.prog.funcNamed Rows.topDisksRow.func = some 7 by kernel_rfl).symm.trans hf) |>.symm
  obtain rfl : fn = Tryd.f7 := (Option.some.inj (Tryd.func7.symm.trans hfn)).symm
  refine ⟨by kernel_rfl, fun j t ht => ?_⟩
  rw [Tryd.params7] at ht
  have hm : t ∈ ([53] : List TypeId) := by simpa using Array.mem_of_getElem? ht
  have hall : (([53] : List TypeId).all fun u => !Tryd.prog.wantsStandIn u) = true := by kernel_rfl
  exact (show Tryd.prog.wantsStandIn t = false by simpa using List.all_eq_true.1 hall t hm)
/-- The card. -/
theorem proved : Rows.TopDisksCardSaid :=
  Claim7.holds_tied_plain_at .later [] _ _ _ _ said (fun _ h => by cases h) (by kernel_rfl) (fun _ h => by cases h) topDisks_row_tie rfl ⟨rfl, rfl⟩ (by kernel_rfl) rfl plain (by kernel_rfl)
end topDisksDone
end Go.Proofs.YtdcmbdghnkgghaaDoor

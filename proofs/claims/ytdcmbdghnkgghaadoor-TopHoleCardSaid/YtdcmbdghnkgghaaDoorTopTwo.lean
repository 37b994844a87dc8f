/- TopTwo: the walk: for every input the call returns true. -/
import Derived.Test.YtdcmbdghnkgghaaDoorT6
import Derived.Test.YtdcmbdghnkgghaaDoorC22
import Derived.Test.YtdcmbdghnkgghaaDoorC15
namespace Go.Proofs.YtdcmbdghnkgghaaDoor
set_option linter.unusedVariables false
open Go Go.RowKit M
def two (i j : Int) : Arr := (goneA (goneA fullA i).1 j).1
def lostTo (D : List (List Bs)) (k : Nat) : Nat := ((List.range k).filter fun n => (readA D (n : Nat)).2 == 9).length
theorem lostTo_next (D : List (List Bs)) (k : Nat) : lostTo D (k + 1) = lostTo D k + (if (readA D (k : Nat)).2 = 9 then 1 else 0) := by
  unfold lostTo
  rw [List.range_succ, List.filter_append]
  by_cases h : (readA D (k : Nat)).2 = 9 <;> simp [h]
theorem lostTo_le (D : List (List Bs)) (k : Nat) : lostTo D k ≤ k := by
  unfold lostTo
  exact Nat.le_trans (List.length_filter_le _ _) (by rw [List.length_range]; exact Nat.le_refl k)
theorem g_two : ∀ i j : Fin 4, i ≠ j → (∀ n : Fin 9, (readA (two i.val j.val).disks n.val).2 = 9 ∨ readA (two i.val j.val).disks n.val = (wantF.getD n.val [], 0)) ∧ 0 < lostTo (two i.val j.val).disks 9 := by decide +kernel
theorem two_facts {one two_ : Int} (h : 0 ≤ one ∧ one < 4 ∧ 0 ≤ two_ ∧ two_ < 4 ∧ one ≠ two_) : (∀ n : Nat, n < 9 → (readA (two one two_).disks (n : Nat)).2 = 9 ∨ readA (two one two_).disks (n : Nat) = (wantF.getD n [], 0)) ∧ 0 < lostTo (two one two_).disks 9 := by
  obtain ⟨i, rfl⟩ : ∃ i : Nat, one = i := ⟨one.toNat, by omega⟩
  obtain ⟨j, rfl⟩ : ∃ j : Nat, two_ = j := ⟨two_.toNat, by omega⟩
  have h4 := g_two ⟨i, by omega⟩ ⟨j, by omega⟩ (fun e => by have := Fin.mk.inj e; omega)
  exact ⟨fun n hn => h4.1 ⟨n, hn⟩, h4.2⟩
theorem wantF_len {n : Nat} (h : n < 9) : (wantF.getD n []).length = 4 := by
  have : ∀ n : Fin 9, (wantF.getD n.val []).length = 4 := by decide +kernel
  exact this ⟨n, h⟩
def stG (n : Int) : Step := ⟨4, n, 0, zeroD⟩
theorem rd_stG (w : World) {n : Int} (h : n ≤ 9223372036854775807) : RdSt w (fun _ => True) (.agg #[.int .i64 4, .int .i64 n, .int .i64 0, .int .i64 0, .int .i64 0, .int .i64 0, .slice none 0 0]) (stG n) := ⟨_, rfl, h, RdL.nil_ _ _ _ _ _ (by decide)⟩
theorem stepP_gone (a : Arr) (n : Int) : stepP a (stG n) = goneA a n := rfl
theorem gone_ok (a : Arr) {n : Int} (h : 0 ≤ n ∧ n < 4) : (goneA a n).2 = 0 := by unfold goneA; rw [if_neg (by omega)]
theorem wrap_lost {n : Nat} (h : n ≤ 10) : IntKind.i64.wrap (n : Int) = n := IntWalk.i64_in _ (by omega)
set_option maxRecDepth 100000 in
set_option maxHeartbeats 3200000 in
theorem topTwo_walk (one two_ : Int) (w : World) (hv : Vars w) (_ : -9223372036854775808 ≤ one) (_ : one ≤ 9223372036854775807) (_ : -9223372036854775808 ≤ two_) (_ : two_ ≤ 9223372036854775807) :
    Calls Tryd.prog 5 #[.int .i64 one, .int .i64 two_] w fun e w' => e = .returned (.bool true) ∧ Below w.heap.size w w' := by
  have HV := Lib.hid hv
  have HBel := Lib.hid (Below.refl w.heap.size w)
  clear hv
  go_enter Tryd.func5, Tryd.ntmps5
  go_wp2_with fail
  refine (top_alive _ HV.out).mono ?_
  rintro e w0 ⟨rfl, hb⟩
  replace HBel := Lib.hid (HBel.out.trans (hb.mono HBel.out.size))
  replace HV := Lib.hid (HV.out.grow hb)
  clear hb
  by_cases h1 : one < 0
  · go_wp2
    go_ret
    exact ⟨rfl, HBel.out⟩
  by_cases h2 : 4 ≤ one
  · go_wp2
    go_ret
    exact ⟨rfl, HBel.out⟩
  by_cases h3 : two_ < 0
  · go_wp2
    go_ret
    exact ⟨rfl, HBel.out⟩
  by_cases h4 : 4 ≤ two_
  · go_wp2
    go_ret
    exact ⟨rfl, HBel.out⟩
  by_cases h5 : one = two_
  · subst h5
    go_wp2
    go_ret
    exact ⟨rfl, HBel.out⟩
  have HIN := Lib.hid (show 0 ≤ one ∧ one < 4 ∧ 0 ≤ two_ ∧ two_ < 4 ∧ one ≠ two_ by omega)
  have e1 : decide (one < 0) = false := by simpa using h1
  have e2 : decide (4 ≤ one) = false := by simpa using h2
  have e3 : decide (two_ < 0) = false := by simpa using h3
  have e4 : decide (4 ≤ two_) = false := by simpa using h4
  have e5 : (one == two_) = false := by simpa using h5
  go_wp2_with fail
  clear h1 h2 h3 h4 h5 e1 e2 e3 e4 e5
  refine (top_full _ HV.out).mono ?_
  rintro e waA ⟨vA, uF, rfl, hr, hu, hb⟩
  obtain ⟨Aw, cw, rfl, _, _⟩ := hu.shape
  rw [show wantF.length = 9 from rfl] at hu ⊢
  obtain ⟨bA, oA, cA, AA, dA, rfl, _, _, hcA, hmA⟩ := RdA_open hr full_good.1
  rw [show fullA.ints.length = 0 by rw [full_good.2]; rfl] at hr ⊢
  have ord0A : w.heap.size ≤ waA.heap.size := Nat.le_trans HBel.out.size hb.size
  have hal := below_alloc waA (.cells #[.slice (some ⟨bA, oA, none⟩) 4 cA, .slice AA 0 dA] 37)
  have hX := boxAt_new waA 37 [.slice (some ⟨bA, oA, none⟩) 4 cA, .slice AA 0 dA]
  have hbb := hb.trans (hal.mono hb.size)
  have hrl := hr.lt.mono (F' := fun k => w.heap.size ≤ k ∧ k < waA.heap.size) fun k hk => by have := HBel.out.size;  omega
  have HRdA := Lib.hid (hrl.grow hal)
  replace HBel := Lib.hid (HBel.out.trans (hbb.mono HBel.out.size))
  have HW := Lib.hid (okBB.mono (okBB.grow (okBB.lt hu) hal) (F' := fun k => k < waA.heap.size) fun k hk => hk.2)
  obtain ⟨wA, hwA⟩ : ∃ x, waA.alloc (.cells #[.slice (some ⟨bA, oA, none⟩) 4 cA, .slice AA 0 dA] 37) = x := ⟨_, rfl⟩
  change BoxAt (waA.alloc (.cells #[.slice (some ⟨bA, oA, none⟩) 4 cA, .slice AA 0 dA] 37)) _ _ _ at hX
  rw [hwA] at hX HRdA HBel    HW
  have HBxA := Lib.hid hX
  clear hal hX hbb hr hb hrl
  obtain ⟨pA0, pA1, pA2, pA3⟩ := HBxA.out.two
  go_wp2_with fail
  clear hwA
  clear hu
  have HG1 := Lib.hid (show Shape (goneA fullA one).1.disks ∧ (goneA fullA one).1.ints = [] from stepP_good full_good.1 full_good.2 (stG one))
  refine (play_Do fullA (stG one) _ _ _ _ HRdA.out (rd_stG _ (by have := HIN.out; omega)) full_good.1 full_good.2 (by have := HIN.out; show -9223372036854775808 ≤ one; omega)).mono ?_
  rintro e z1 ⟨v, rfl, hr, hb⟩
  rw [stepP_gone] at hr ⊢
  rw [gone_ok _ ⟨HIN.out.1, HIN.out.2.1⟩]
  obtain ⟨bz1, oz1, cz1, Az1, dz1, rfl, _, _, hcz1, hmz1⟩ := RdA_open hr HG1.out.1
  rw [show (goneA fullA one).1.ints.length = 0 by rw [HG1.out.2]; rfl] at hr ⊢
  have hsA := HBxA.out.lt
  have hrl := hr.lt
  replace HBxA := Lib.hid (HBxA.out.grow hb)
  replace HRdA := Lib.hid (HRdA.out.grow hb)
  replace HBel := Lib.hid (HBel.out.trans (hb.mono HBel.out.size))
  replace HW := Lib.hid (okBB.grow HW.out hb)
  clear pA0 pA1 pA2 pA3
  obtain ⟨q0, q1, q2, q3⟩ := HBxA.out.two
  have g0 : BoxAt (set2 z1 waA.heap.size (.slice (some ⟨bz1, oz1, none⟩) 4 cz1) (.slice Az1 0 dz1)) _ _ _ := HBxA.out.put2
  have rn : RdA (set2 z1 waA.heap.size (.slice (some ⟨bz1, oz1, none⟩) 4 cz1) (.slice Az1 0 dz1)) (fun k => waA.heap.size < k) _ _ := (hrl.mono (F' := fun k => waA.heap.size < k) fun k hk => by omega).set2 (b := waA.heap.size) (fun k hk => by omega)
  have eHW := (show RdBB (set2 z1 waA.heap.size (.slice (some ⟨bz1, oz1, none⟩) 4 cz1) (.slice Az1 0 dz1)) _ _ _ from okBB.set2 HW.out (b := waA.heap.size) (fun k hk => by omega))
  have gb := HBel.out.trans (below_set2 (w := z1) (b := waA.heap.size) (v0 := .slice (some ⟨bz1, oz1, none⟩) 4 cz1) (v1 := .slice Az1 0 dz1) (by omega))
  obtain ⟨wz1, hwz1⟩ : ∃ x, set2 z1 waA.heap.size (.slice (some ⟨bz1, oz1, none⟩) 4 cz1) (.slice Az1 0 dz1) = x := ⟨_, rfl⟩
  rw [hwz1] at g0 eHW rn gb
  change (z1.setCell ⟨waA.heap.size, 0, none⟩ (.slice (some ⟨bz1, oz1, none⟩) 4 cz1)).setCell ⟨waA.heap.size, 1, none⟩ (.slice Az1 0 dz1) = wz1 at hwz1
  replace HBxA := Lib.hid g0
  replace HRdA := Lib.hid rn
  replace HW := Lib.hid eHW
  replace HBel := Lib.hid gb
  clear hr hrl hb g0 eHW rn gb hsA
  obtain ⟨pA0, pA1, pA2, pA3⟩ := HBxA.out.two
  go_wp2_with fail
  clear hwz1 q0 q1 q2 q3
  have HG2 := Lib.hid (show Shape (goneA (goneA fullA one).1 two_).1.disks ∧ (goneA (goneA fullA one).1 two_).1.ints = [] from stepP_good HG1.out.1 HG1.out.2 (stG two_))
  refine (play_Do (goneA fullA one).1 (stG two_) _ _ _ _ HRdA.out (rd_stG _ (by have := HIN.out; omega)) HG1.out.1 HG1.out.2 (by have := HIN.out; show -9223372036854775808 ≤ two_; omega)).mono ?_
  rintro e z2 ⟨v, rfl, hr, hb⟩
  rw [stepP_gone] at hr ⊢
  rw [gone_ok _ ⟨HIN.out.2.2.1, HIN.out.2.2.2.1⟩]
  obtain ⟨bz2, oz2, cz2, Az2, dz2, rfl, _, _, hcz2, hmz2⟩ := RdA_open hr HG2.out.1
  rw [show (goneA (goneA fullA one).1 two_).1.ints.length = 0 by rw [HG2.out.2]; rfl] at hr ⊢
  have hsA := HBxA.out.lt
  have hrl := hr.lt
  replace HBxA := Lib.hid (HBxA.out.grow hb)
  replace HRdA := Lib.hid (HRdA.out.grow hb)
  replace HBel := Lib.hid (HBel.out.trans (hb.mono HBel.out.size))
  replace HW := Lib.hid (okBB.grow HW.out hb)
  clear pA0 pA1 pA2 pA3
  obtain ⟨q0, q1, q2, q3⟩ := HBxA.out.two
  have g0 : BoxAt (set2 z2 waA.heap.size (.slice (some ⟨bz2, oz2, none⟩) 4 cz2) (.slice Az2 0 dz2)) _ _ _ := HBxA.out.put2
  have rn : RdA (set2 z2 waA.heap.size (.slice (some ⟨bz2, oz2, none⟩) 4 cz2) (.slice Az2 0 dz2)) (fun k => waA.heap.size < k) _ _ := (hrl.mono (F' := fun k => waA.heap.size < k) fun k hk => by omega).set2 (b := waA.heap.size) (fun k hk => by omega)
  have eHW := (show RdBB (set2 z2 waA.heap.size (.slice (some ⟨bz2, oz2, none⟩) 4 cz2) (.slice Az2 0 dz2)) _ _ _ from okBB.set2 HW.out (b := waA.heap.size) (fun k hk => by omega))
  have gb := HBel.out.trans (below_set2 (w := z2) (b := waA.heap.size) (v0 := .slice (some ⟨bz2, oz2, none⟩) 4 cz2) (v1 := .slice Az2 0 dz2) (by omega))
  obtain ⟨wz2, hwz2⟩ : ∃ x, set2 z2 waA.heap.size (.slice (some ⟨bz2, oz2, none⟩) 4 cz2) (.slice Az2 0 dz2) = x := ⟨_, rfl⟩
  rw [hwz2] at g0 eHW rn gb
  change (z2.setCell ⟨waA.heap.size, 0, none⟩ (.slice (some ⟨bz2, oz2, none⟩) 4 cz2)).setCell ⟨waA.heap.size, 1, none⟩ (.slice Az2 0 dz2) = wz2 at hwz2
  replace HBxA := Lib.hid g0
  replace HRdA := Lib.hid rn
  replace HW := Lib.hid eHW
  replace HBel := Lib.hid gb
  clear hr hrl hb g0 eHW rn gb hsA
  obtain ⟨pA0, pA1, pA2, pA3⟩ := HBxA.out.two
  go_wp2_with fail
  clear hwz2 q0 q1 q2 q3
  have HT := Lib.hid (two_facts HIN.out)
  generalize hD : (goneA (goneA fullA one).1 two_).1 = D at *
  rw [show two one two_ = D from hD] at HT
  clear hD HG1
  unfold maxLen at *
  go_loopw [8, 54] (fun l i wr => ∃ k : Nat, k ≤ 9 ∧ i = .int .i64 k ∧ l = .int .i64 (lostTo D.disks k : Nat) ∧ Below wz2.heap.size wz2 wr) (fun _ i _ => 9 - (intOf i).toNat)
  case atStart => exact ⟨0, Nat.zero_le _, rfl, rfl, Below.refl _ _⟩
  case round =>
    obtain ⟨k, hk, rfl, rfl, hlw⟩ := hrel
    by_cases hlt : k < 9
    · have hbk : decide ((k : Int) < 9) = true := by simp; omega
      obtain ⟨x0, x1, x2, x3⟩ := (HBxA.out.grow hlw).two
      have HLW := Lib.hid hlw
      have hlk := lostTo_le D.disks k
      clear hlw
      go_wp2_with fail
      refine (array_Read D k _ _ _ (HRdA.out.grow HLW.out) HG2.out.1).mono ?_
      rintro e wc ⟨vc, rfl, hvc, hb⟩
      replace HLW := Lib.hid (HLW.out.trans (hb.mono HLW.out.size))
      clear hb x0 x1 x2 x3
      have hn := lostTo_next D.disks k
      rcases HT.out.1 k hlt with he | he
      · rw [he]
        rw [if_pos he] at hn
        clear hvc he
        have hbn : ((lostTo D.disks k : Nat) : Int) + 1 = ((lostTo D.disks (k + 1) : Nat) : Int) := by rw [hn]; rfl
        have hwp : IntKind.i64.wrap (((lostTo D.disks k : Nat) : Int) + 1) = ((lostTo D.disks (k + 1) : Nat) : Int) := by rw [hbn]; exact wrap_lost (by omega)
        clear hbn
        go_wp2
        go_roundw
        case rel => exact ⟨k + 1, by omega, by go_num, by first | rfl | (rw [hn]; go_num), HLW.out⟩
        case measure => simp [intOf]; omega
      · rw [he] at hvc ⊢
        rw [if_neg (by rw [he]; show ¬((0 : Int) = 9); decide), Nat.add_zero] at hn
        have hxl := wantF_len hlt
        have hwx := RdL.at_ (okBB.grow HW.out HLW.out) (k := k) hlt
        rw [show wantF[k]'hlt = wantF.getD k [] from (List.getD_eq_getElem?_getD ▸ (by rw [List.getElem?_eq_getElem hlt]; rfl))] at hwx
        generalize wantF.getD k [] = x at *
        obtain ⟨Ab, cb, rfl, _, _⟩ := hvc.shape
        rw [hxl] at hvc ⊢
        obtain ⟨bw, ow, uk, rfl, _, hck, huk⟩ := hwx
        obtain ⟨Au, cu, rfl, _, _⟩ := RdL.shape huk
        rw [hxl] at huk hck
        have HVC := Lib.hid hvc
        have HUK := Lib.hid huk
        have HCK := Lib.hid hck
        have HN := Lib.hid hn
        clear hvc huk hck hn he
        go_wp2_with fail
        refine region_list [Cv (.int .i64 0), Cv (.bool false), Cv (.bool false), Cv (.slice Ab 4 cb), Cv (.string (strB x)), Cv (.slice (some ⟨bw, ow, none⟩) 9 cw), Cv (.int .i64 k), Cv (.pointer (some ⟨bw, ow + k, none⟩)), Cv (.slice Au 4 cu), Cv (.string (strB x)), Cv (.bool false), Cv (.bool false)] (by kernel_rfl) (by kernel_rfl) (by kernel_rfl) ?_ ?_ ?_
        · repeat (first | exact trivial | refine ⟨mC _, ?_⟩ | refine ⟨mR okB _, ?_⟩ | refine ⟨mT, ?_⟩ | refine ⟨mR okBB _, ?_⟩ | refine ⟨mR okBBB _, ?_⟩ | refine ⟨mR (okL okI) _, ?_⟩ | refine ⟨mKt _, ?_⟩ | refine ⟨mRa _ _, ?_⟩)
        · simp only [StepsL]
          refine ⟨?_, ?_, ?_, ?_, ?_, ?_, ?_, ?_, ?_, ?_, ?_, ?_, trivial⟩
          · intro ys wx hw hd K hK
            simp only [putL, Act.put, List.setIfInBounds_toArray, List.set_cons_zero, List.set_cons_succ, Nat.zero_add, Nat.reduceAdd] at hK ⊢
            rw [if_pos (by rfl)]
            go_simp
            exact hK _ _ (Below.refl _ _) rfl
          · intro ys wx hw hd K hK
            have e0 : ys 0 = _ := hd 0 (by decide)
            simp only [putL, Act.put, List.setIfInBounds_toArray, List.set_cons_zero, List.set_cons_succ, Nat.zero_add, Nat.reduceAdd, e0] at hK ⊢
            rw [if_pos (by rfl)]
            go_simp
            exact hK _ _ (Below.refl _ _) rfl
          · intro ys wx hw hd K hK
            have e1 : ys 1 = _ := hd 1 (by decide)
            simp only [putL, Act.put, List.setIfInBounds_toArray, List.set_cons_zero, List.set_cons_succ, Nat.zero_add, Nat.reduceAdd, e1] at hK ⊢
            rw [if_pos (by rfl)]
            go_simp
            exact hK _ _ (Below.refl _ _) rfl
          · intro ys wx hw hd K hK
            have e2 : ys 2 = _ := hd 2 (by decide)
            simp only [putL, Act.put, List.setIfInBounds_toArray, List.set_cons_zero, List.set_cons_succ, Nat.zero_add, Nat.reduceAdd, e2] at hK ⊢
            rw [if_pos (by rfl)]
            go_simp
            exact hK _ _ (Below.refl _ _) rfl
          · intro ys wx hw hd K hK
            have e2 : ys 2 = _ := hd 2 (by decide)
            have e3 : ys 3 = _ := hd 3 (by decide)
            simp only [putL, Act.put, List.setIfInBounds_toArray, List.set_cons_zero, List.set_cons_succ, Nat.zero_add, Nat.reduceAdd, e2, e3] at hK ⊢
            rw [if_pos (by rfl)]
            have hc2 := run_conv (okB.grow HVC.out hw) Tryd.underlying22 Tryd.underlying5 Tryd.underlying9
            go_simp
            exact hK _ _ (Below.refl _ _) rfl
          · intro ys wx hw hd K hK
            have e2 : ys 2 = _ := hd 2 (by decide)
            simp only [putL, Act.put, List.setIfInBounds_toArray, List.set_cons_zero, List.set_cons_succ, Nat.zero_add, Nat.reduceAdd, e2] at hK ⊢
            rw [if_pos (by rfl)]
            go_simp
            exact hK _ _ (Below.refl _ _) rfl
          · intro ys wx hw hd K hK
            have e2 : ys 2 = _ := hd 2 (by decide)
            simp only [putL, Act.put, List.setIfInBounds_toArray, List.set_cons_zero, List.set_cons_succ, Nat.zero_add, Nat.reduceAdd, e2] at hK ⊢
            rw [if_pos (by rfl)]
            go_simp
            exact hK _ _ (Below.refl _ _) rfl
          · intro ys wx hw hd K hK
            have e2 : ys 2 = _ := hd 2 (by decide)
            have e5 : ys 5 = _ := hd 5 (by decide)
            have e6 : ys 6 = _ := hd 6 (by decide)
            simp only [putL, Act.put, List.setIfInBounds_toArray, List.set_cons_zero, List.set_cons_succ, Nat.zero_add, Nat.reduceAdd, e2, e5, e6] at hK ⊢
            rw [if_pos (by rfl)]
            have h9 : (k : Int) < 9 := by omega
            go_simp
            exact hK _ _ (Below.refl _ _) rfl
          · intro ys wx hw hd K hK
            have e2 : ys 2 = _ := hd 2 (by decide)
            have e7 : ys 7 = _ := hd 7 (by decide)
            simp only [putL, Act.put, List.setIfInBounds_toArray, List.set_cons_zero, List.set_cons_succ, Nat.zero_add, Nat.reduceAdd, e2, e7] at hK ⊢
            rw [if_pos (by rfl)]
            have kx := (hw.cell (World.block_lt_of_cell? _ _ HCK.out)).trans HCK.out
            go_simp
            exact hK _ _ (Below.refl _ _) rfl
          · intro ys wx hw hd K hK
            have e2 : ys 2 = _ := hd 2 (by decide)
            have e8 : ys 8 = _ := hd 8 (by decide)
            simp only [putL, Act.put, List.setIfInBounds_toArray, List.set_cons_zero, List.set_cons_succ, Nat.zero_add, Nat.reduceAdd, e2, e8] at hK ⊢
            rw [if_pos (by rfl)]
            have hc2 := run_conv (okB.grow HUK.out hw) Tryd.underlying22 Tryd.underlying5 Tryd.underlying9
            go_simp
            exact hK _ _ (Below.refl _ _) rfl
          · intro ys wx hw hd K hK
            have e2 : ys 2 = _ := hd 2 (by decide)
            have e4 : ys 4 = _ := hd 4 (by decide)
            have e9 : ys 9 = _ := hd 9 (by decide)
            simp only [putL, Act.put, List.setIfInBounds_toArray, List.set_cons_zero, List.set_cons_succ, Nat.zero_add, Nat.reduceAdd, e2, e4, e9] at hK ⊢
            rw [if_pos (by rfl)]
            go_simp
            exact hK _ _ (Below.refl _ _) rfl
          · intro ys wx hw hd K hK
            have e2 : ys 2 = _ := hd 2 (by decide)
            have e10 : ys 10 = _ := hd 10 (by decide)
            simp only [putL, Act.put, List.setIfInBounds_toArray, List.set_cons_zero, List.set_cons_succ, Nat.zero_add, Nat.reduceAdd, e2, e10] at hK ⊢
            rw [if_pos (by rfl)]
            go_simp
            exact hK _ _ (Below.refl _ _) rfl
        · intro ys w' hl' hV
          have e11 : ys 11 = _ := hV 11 (by decide)
          clear hV
          simp only [putL, Act.put, List.setIfInBounds_toArray, List.set_cons_zero, List.set_cons_succ, Nat.zero_add, Nat.reduceAdd, e11]
          clear e11
          replace HLW := Lib.hid (HLW.out.trans (hl'.mono HLW.out.size))
          clear hl'
          go_wp2
          go_roundw
          case rel => exact ⟨k + 1, by omega, by go_num, by rw [HN.out]; rfl, HLW.out⟩
          case measure => simp [intOf]; omega
    · obtain rfl : k = 9 := by omega
      have hp9 : decide (0 < lostTo D.disks 9) = true := decide_eq_true HT.out.2
      go_wp2
      go_ret
      exact ⟨rfl, HBel.out.trans (hlw.mono HBel.out.size)⟩
namespace topTwoDone
open Go.ChangeShapes Go.WideShapes Go.ChangeAt Go.RowKit M
open Go.ChangeMaps (open_string shut_string)
set_option linter.unusedVariables false
set_option maxRecDepth 100000 in
theorem contract (H : Type) (enc : TypeId × Value → H) (W : World) (base : Nat) (args : Array Value) (ds gs : List (DataW H)) (before : List MemPlace)
    (hval0 : ∀ (j : Nat) t v, Tryd.f5.params[j]? = some t → args[j]? = some v → Value.okWide Tryd.prog W .any base t v)
    (hW : DataW.Whole enc Tryd.prog Tryd.f5.params.toList Rows.topTwoSpec.vars false W args.toList ds gs before) (hL : laidMetH Tryd.prog Rows.textTellsRow.laid W) (hs : W.ShapedOpen Tryd.prog) :
    Calls Tryd.prog 5 args W fun e W' => ∃ v, e = .returned v ∧ Rows.topTwoSpec.post enc Tryd.prog Tryd.f5 false true false false W args v W' := by
  have hval : ∀ (j : Nat) t v, Tryd.f5.params[j]? = some t → args[j]? = some v → Value.okWide Tryd.prog W .any base t v := hval0
  have hW' := hW
  obtain ⟨p, q, hA0, hV, rfl, hfz, hnd⟩ := hW
  have hA : DataW.TrodAll enc Tryd.prog W 0 (fun _ => true) true Tryd.f5.params.toList args.toList ds p := hA0
  rw [Tryd.params5] at hA hval
  obtain ⟨v0, vs0, d0, ds0, p0, q0, hargs, rfl, rfl, h0, r0⟩ := trodAll_cons hA
  obtain ⟨v1, vs1, d1, ds1, p1, q1, rfl, rfl, rfl, h1, r1⟩ := trodAll_cons r0
  obtain ⟨rfl, rfl, rfl⟩ := trodAll_nil r1
  obtain rfl : args = #[v0, v1] := by cases args; simp_all
  obtain ⟨rfl, rfl⟩ := trodVars_none hV
  obtain ⟨a0, rfl, rfl, rfl, w0⟩ := open_int Tryd.underlying3 (hval 0 3 v0 rfl rfl) h0
  have b0 := bounds_i64 w0
  obtain ⟨a1, rfl, rfl, rfl, w1⟩ := open_int Tryd.underlying3 (hval 1 3 v1 rfl rfl) h1
  have b1 := bounds_i64 w1
  clear hA0 hval0
  refine (topTwo_walk a0 a1 W (vars_of hL hs) b0.1 b0.2 b1.1 b1.2).mono fun e W' ⟨he, bel⟩ => ?_
  subst he
  exact ⟨_, rfl, _, _, _, [], _, [], hW', trodAll_mk1 (shut_bool Tryd.underlying4 _), (trodAll_cons_mk (shut_int Tryd.underlying3 w0) (trodAll_cons_mk (shut_int Tryd.underlying3 w1) trodAll_mk0)), rfl, bel.frame _, fun h => by cases h⟩
set_option maxRecDepth 100000 in
theorem reads (os : Os) {H : Type} (enc : TypeId × Value → H) : ∃ places, DataW.whole enc Tryd.prog ((laidWorld os).forCall (fun _ _ => 0) ⟨#[], #[.int .i64 0, .int .i64 0], []⟩).memory Tryd.f5.params.toList Rows.topTwoSpec.vars false (#[.int .i64 0, .int .i64 0] : Array Value).toList 8 = some ([.lit (.int .i64 0), .lit (.int .i64 0)], [], places) :=
  ⟨[], by kernel_rfl⟩
set_option maxRecDepth 100000 in
theorem lifted (os : Os) (started : os.Started) (H : Type) (enc : TypeId × Value → H) (F : Stop.Interp) :
    ReturnsInHanded {} Tryd.checked os 5 .any ((OpenSpec.ofChange Rows.topTwoSpec).preRow enc Tryd.prog Tryd.f5 Rows.topTwoRow.domain false Rows.topTwoRow.laid) (((OpenSpec.ofChange Rows.topTwoSpec).at F).post enc Tryd.prog Tryd.f5 false true false false) := by
  obtain ⟨places, hx⟩ := reads os enc
  refine returnsInHanded_of_row (C := Tryd.checked) (s := OpenSpec.ofChange Rows.topTwoSpec) own started (by kernel_rfl) Tryd.func5
    (witness_row_atRef (enc := enc) (C := Tryd.checked) false (laidWorld os) #[.int .i64 0, .int .i64 0] rfl (by kernel_rfl) (by kernel_rfl) (by kernel_rfl)
      (OpenSpec.preRow_of_cond 8 hx (by kernel_rfl) (fun k hk => by cases hk) (by kernel_rfl) (laid_metH os _))) ?_
  intro W base args ds gs before hval hW _ hcond _ hL hs _
  exact contract H enc W base args ds gs before hval hW hL hs
theorem said : Rows.topTwoRow.holds Tryd.pinned (OpenSpec.ofChange Rows.topTwoSpec) :=
  OpenClaim.holds_of_cond 5 Tryd.f5 rfl rfl rfl rfl rfl rfl rfl ⟨rfl, rfl, rfl, rfl, rfl⟩ rfl rfl rfl rfl rfl (by kernel_rfl) Tryd.func5 (by kernel_rfl)
    (of_decide_eq_true (by kernel_rfl)) (by unfold Func.isWrapper; first | (rw [if_pos (by decide +kernel)]; kernel_rfl) | (rw [if_neg (by decide +kernel)]; exact ⟨rfl, rfl⟩))
    (fun os started H enc _ F => by rw [OpenClaim.pre_eq_preRow]; exact lifted os started H enc F)
theorem plain (f : FuncId) (fn : Func) (hf : Tryd.pinned.checked.prog.funcNamed Rows.topTwoRow.func = some f) (hfn : Tryd.pinned.checked.prog.funcs[f]? = some fn) :
    true = Tryd.pinned.checked.prog.looks [] ∧ ∀ (j : Nat) t, fn.params[j]? = some t → Tryd.pinned.checked.prog.wantsStandIn t = false := by
  obtain rfl : f = 5 := Option.some.inj ((show Tryd.prog.funcNamed Rows.topTwoRow.func = some 5 by kernel_rfl).symm.trans hf) |>.symm
  obtain rfl : fn = Tryd.f5 := (Option.some.inj (Tryd.func5.symm.trans hfn)).symm
  refine ⟨by kernel_rfl, fun j t ht => ?_⟩
  rw [Tryd.params5] at ht
  have hm : t ∈ ([3, 3] : List TypeId) := by simpa using Array.mem_of_getElem? ht
  have hall : (([3, 3] : List TypeId).all fun u => !Tryd.prog.wantsStandIn u) = true := by kernel_rfl
  exact (show Tryd.prog.wantsStandIn t = false by simpa using List.all_eq_true.1 hall t hm)
/-- The card. -/
theorem proved : Rows.TopTwoCardSaid :=
  Claim7.holds_tied_plain_at .later [] _ _ _ _ said (fun _ h => by cases h) (by kernel_rfl) (fun _ h => by cases h) topTwo_row_tie rfl ⟨rfl, rfl⟩ (by kernel_rfl) rfl plain (by kernel_rfl)
end topTwoDone
end Go.Proofs.YtdcmbdghnkgghaaDoor

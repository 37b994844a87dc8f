/- TextTells: the walk: for every input of at most 1048576 letters the call returns true. -/
import Derived.Test.YtdcmbdghnkgghaaDoorT13
import Derived.Test.YtdcmbdghnkgghaaDoorT11
import Derived.Test.YtdcmbdghnkgghaaDoorT9
import Derived.Test.YtdcmbdghnkgghaaDoorT6
namespace Go.Proofs.YtdcmbdghnkgghaaDoor
set_option linter.unusedVariables false
open Go Go.RowKit M
set_option maxRecDepth 100000 in
set_option maxHeartbeats 6400000 in
theorem textTells_walk (s : ByteArray) (d : Deed) (vd : Value) (w : World) (hv : Vars w) (hs : s.size ≤ 1048576) (hd : RdD w (fun _ => True) vd d) :
    Calls Tryd.prog 3 #[.string s, vd] w fun e w' => e = .returned (.bool true) ∧ Below w.heap.size w w' := by
  obtain ⟨dv, rfl, hdv⟩ := hd
  replace hdv := okB.lt hdv
  obtain ⟨Ad, cd, rfl, _, _⟩ := hdv.shape
  have hA := boxAt_new w 24 [.int .i64 d.kind, .int .i64 d.n, .int .i64 d.m, .slice Ad d.data.length cd]
  have hB := below_alloc w (.cells #[.int .i64 d.kind, .int .i64 d.n, .int .i64 d.m, .slice Ad d.data.length cd] 24)
  obtain ⟨w1, hW⟩ : ∃ x, w.alloc (.cells #[.int .i64 d.kind, .int .i64 d.n, .int .i64 d.m, .slice Ad d.data.length cd] 24) = x := ⟨_, rfl⟩
  change BoxAt (w.alloc (.cells #[.int .i64 d.kind, .int .i64 d.n, .int .i64 d.m, .slice Ad d.data.length cd] 24)) _ _ _ at hA
  rw [hW] at hA hB
  have HA := Lib.hid hA
  have HD := Lib.hid (okB.mono (okB.grow hdv hB) (F' := fun k => k < w.heap.size) fun k hk => hk.2)
  have HV := Lib.hid (hv.grow hB)
  have HB := Lib.hid hB
  have HSZ := Lib.hid hs
  clear hA hB hv hs hdv
  go_enter Tryd.func3, Tryd.ntmps3
  go_wp2_with fail
  clear hW
  refine (text_Parse s HSZ.out _ HV.out).mono ?_
  rintro e wp ⟨vp, rfl, hrp, hbp⟩
  obtain ⟨xd, xe, hxp⟩ : ∃ a b, parseP s.data.toList = (a, b) := ⟨_, _, rfl⟩
  have HXP := Lib.hid hxp
  rw [hxp] at hrp ⊢
  clear hxp
  obtain ⟨up, rfl, hup⟩ := hrp
  obtain ⟨Ap, cp, rfl, _, _⟩ := hup.shape
  have hZ := boxAt_new wp 24 [.int .i64 xd.kind, .int .i64 xd.n, .int .i64 xd.m, .slice Ap xd.data.length cp]
  have hal := below_alloc wp (.cells #[.int .i64 xd.kind, .int .i64 xd.n, .int .i64 xd.m, .slice Ap xd.data.length cp] 24)
  have huq := okB.grow (okB.lt hup) hal
  have hbq := hbp.trans (hal.mono hbp.size)
  replace HA := Lib.hid (HA.out.grow hbq)
  replace HD := Lib.hid (okB.grow HD.out hbq)
  replace HV := Lib.hid (HV.out.grow hbq)
  replace HB := Lib.hid (HB.out.trans (hbq.mono HB.out.size))
  obtain ⟨wq, hwq⟩ : ∃ x, wp.alloc (.cells #[.int .i64 xd.kind, .int .i64 xd.n, .int .i64 xd.m, .slice Ap xd.data.length cp] 24) = x := ⟨_, rfl⟩
  change BoxAt (wp.alloc (.cells #[.int .i64 xd.kind, .int .i64 xd.n, .int .i64 xd.m, .slice Ap xd.data.length cp] 24)) _ _ _ at hZ
  rw [hwq] at hZ huq HA HD HV HB
  obtain ⟨BP, hBP⟩ : ∃ b, wp.heap.size = b := ⟨_, rfl⟩
  rw [hBP] at hZ
  have HP := Lib.hid hZ
  have HU := Lib.hid huq
  clear hZ hal hup huq hbp hbq
  go_wp2_with fail
  clear hwq
  refine (ref_Parse s HSZ.out _ HV.out).mono ?_
  rintro e wp ⟨vp, rfl, hrp, hbp⟩
  rw [HXP.out] at hrp ⊢
  obtain ⟨up, rfl, hup⟩ := hrp
  obtain ⟨Aq, cq, rfl, _, _⟩ := hup.shape
  have hZ := boxAt_new wp 24 [.int .i64 xd.kind, .int .i64 xd.n, .int .i64 xd.m, .slice Aq xd.data.length cq]
  have hal := below_alloc wp (.cells #[.int .i64 xd.kind, .int .i64 xd.n, .int .i64 xd.m, .slice Aq xd.data.length cq] 24)
  have huq := okB.grow (okB.lt hup) hal
  have hbq := hbp.trans (hal.mono hbp.size)
  replace HA := Lib.hid (HA.out.grow hbq)
  replace HD := Lib.hid (okB.grow HD.out hbq)
  replace HV := Lib.hid (HV.out.grow hbq)
  replace HB := Lib.hid (HB.out.trans (hbq.mono HB.out.size))
  replace HP := Lib.hid (HP.out.grow hbq)
  replace HU := Lib.hid (okB.grow HU.out hbq)
  obtain ⟨wr, hwr⟩ : ∃ x, wp.alloc (.cells #[.int .i64 xd.kind, .int .i64 xd.n, .int .i64 xd.m, .slice Aq xd.data.length cq] 24) = x := ⟨_, rfl⟩
  change BoxAt (wp.alloc (.cells #[.int .i64 xd.kind, .int .i64 xd.n, .int .i64 xd.m, .slice Aq xd.data.length cq] 24)) _ _ _ at hZ
  rw [hwr] at hZ huq HA HD HV HB HP HU
  obtain ⟨BQ, hBQ⟩ : ∃ b, wp.heap.size = b := ⟨_, rfl⟩
  rw [hBQ] at hZ
  have HQ := Lib.hid hZ
  have HY := Lib.hid huq
  clear hZ hal hup huq hbp hbq
  clear HXP
  go_wp2_with fail
  clear hwr
  by_cases hr : wrongI d = 0
  · have HR := Lib.hid hr
    clear hr
    refine region_list [Cv (.int .i64 xe), Cv (.int .i64 xe), Cv (.bool true), Cv (.bool true), Cv (.agg #[.int .i64 xd.kind, .int .i64 xd.n, .int .i64 xd.m, .slice Ap xd.data.length cp]), Cv (.agg #[.int .i64 xd.kind, .int .i64 xd.n, .int .i64 xd.m, .slice Aq xd.data.length cq]), Cv (.bool true), Cv (.bool true), Cv (.bool true), Cv (.agg #[.int .i64 d.kind, .int .i64 d.n, .int .i64 d.m, .slice Ad d.data.length cd]), Cv (.int .i64 0), Cv (.bool false), Cv (.bool false), Cv (.agg #[.int .i64 d.kind, .int .i64 d.n, .int .i64 d.m, .slice Ad d.data.length cd]), Cv (.string (strB (printP d))), Cv (.agg #[.int .i64 d.kind, .int .i64 d.n, .int .i64 d.m, .slice Ad d.data.length cd]), Cv (.string (strB (printP d))), Cv (.bool true), Cv (.bool true), Cv (.bool true), Cv (.bool true)] (by kernel_rfl) (by kernel_rfl) (by kernel_rfl) ?_ ?_ ?_
    · repeat (first | exact trivial | refine ⟨mC _, ?_⟩ | refine ⟨mR okB _, ?_⟩ | refine ⟨mT, ?_⟩ | refine ⟨mR okBB _, ?_⟩ | refine ⟨mR okBBB _, ?_⟩ | refine ⟨mR (okL okI) _, ?_⟩ | refine ⟨mKt _, ?_⟩ | refine ⟨mRa _ _, ?_⟩)
    · simp only [StepsL]
      refine ⟨?_, ?_, ?_, ?_, ?_, ?_, ?_, ?_, ?_, ?_, ?_, ?_, ?_, ?_, ?_, ?_, ?_, ?_, ?_, ?_, ?_, trivial⟩
      · intro ys wx hw hd K hK
        simp only [putL, Act.put, List.setIfInBounds_toArray, List.set_cons_zero, List.set_cons_succ, Nat.zero_add, Nat.reduceAdd] at hK ⊢
        rw [if_pos (by rfl)]
        go_simp
        exact hK _ _ (Below.refl _ _) rfl
      · intro ys wx hw hd K hK
        simp only [putL, Act.put, List.setIfInBounds_toArray, List.set_cons_zero, List.set_cons_succ, Nat.zero_add, Nat.reduceAdd] at hK ⊢
        rw [if_pos (by rfl)]
        go_simp
        exact hK _ _ (Below.refl _ _) rfl
      · intro ys wx hw hd K hK
        have e0 : ys 0 = _ := hd 0 (by decide)
        have e1 : ys 1 = _ := hd 1 (by decide)
        simp only [putL, Act.put, List.setIfInBounds_toArray, List.set_cons_zero, List.set_cons_succ, Nat.zero_add, Nat.reduceAdd, e0, e1] at hK ⊢
        rw [if_pos (by rfl)]
        go_simp
        exact hK _ _ (Below.refl _ _) rfl
      · intro ys wx hw hd K hK
        have e2 : ys 2 = _ := hd 2 (by decide)
        simp only [putL, Act.put, List.setIfInBounds_toArray, List.set_cons_zero, List.set_cons_succ, Nat.zero_add, Nat.reduceAdd, e2] at hK ⊢
        rw [if_pos (by rfl)]
        go_simp
        exact hK _ _ (Below.refl _ _) rfl
      · intro ys wx hw hd K hK
        have e3 : ys 3 = _ := hd 3 (by decide)
        simp only [putL, Act.put, List.setIfInBounds_toArray, List.set_cons_zero, List.set_cons_succ, Nat.zero_add, Nat.reduceAdd, e3] at hK ⊢
        rw [if_pos (by rfl)]
        obtain ⟨kb0, kb1, kb2, kb3⟩ := (BoxAt.four (HP.out.grow hw))
        go_simp
        exact hK _ _ (Below.refl _ _) rfl
      · intro ys wx hw hd K hK
        have e3 : ys 3 = _ := hd 3 (by decide)
        simp only [putL, Act.put, List.setIfInBounds_toArray, List.set_cons_zero, List.set_cons_succ, Nat.zero_add, Nat.reduceAdd, e3] at hK ⊢
        rw [if_pos (by rfl)]
        obtain ⟨kb0, kb1, kb2, kb3⟩ := (BoxAt.four (HQ.out.grow hw))
        go_simp
        exact hK _ _ (Below.refl _ _) rfl
      · intro ys wx hw hd K hK
        have e3 : ys 3 = _ := hd 3 (by decide)
        have e4 : ys 4 = _ := hd 4 (by decide)
        have e5 : ys 5 = _ := hd 5 (by decide)
        simp only [putL, Act.put, List.setIfInBounds_toArray, List.set_cons_zero, List.set_cons_succ, Nat.zero_add, Nat.reduceAdd, e3, e4, e5] at hK ⊢
        rw [if_pos (by rfl)]
        go_simp
        refine (ref_SameDeed xd xd _ _ (fun _ => True) _ ⟨_, rfl, okB.mono (okB.grow HU.out hw) fun _ _ => trivial⟩ ⟨_, rfl, okB.mono (okB.grow HY.out hw) fun _ _ => trivial⟩).mono ?_
        rintro e w' ⟨rfl, hb⟩
        exact hK _ _ hb (by rw [(sameD_iff xd xd).2 rfl]; rfl)
      · intro ys wx hw hd K hK
        have e3 : ys 3 = _ := hd 3 (by decide)
        have e6 : ys 6 = _ := hd 6 (by decide)
        simp only [putL, Act.put, List.setIfInBounds_toArray, List.set_cons_zero, List.set_cons_succ, Nat.zero_add, Nat.reduceAdd, e3, e6] at hK ⊢
        rw [if_pos (by rfl)]
        go_simp
        exact hK _ _ (Below.refl _ _) rfl
      · intro ys wx hw hd K hK
        have e7 : ys 7 = _ := hd 7 (by decide)
        simp only [putL, Act.put, List.setIfInBounds_toArray, List.set_cons_zero, List.set_cons_succ, Nat.zero_add, Nat.reduceAdd, e7] at hK ⊢
        rw [if_pos (by rfl)]
        go_simp
        exact hK _ _ (Below.refl _ _) rfl
      · intro ys wx hw hd K hK
        have e8 : ys 8 = _ := hd 8 (by decide)
        simp only [putL, Act.put, List.setIfInBounds_toArray, List.set_cons_zero, List.set_cons_succ, Nat.zero_add, Nat.reduceAdd, e8] at hK ⊢
        rw [if_pos (by rfl)]
        obtain ⟨kb0, kb1, kb2, kb3⟩ := (BoxAt.four (HA.out.grow hw))
        go_simp
        exact hK _ _ (Below.refl _ _) rfl
      · intro ys wx hw hd K hK
        have e8 : ys 8 = _ := hd 8 (by decide)
        have e9 : ys 9 = _ := hd 9 (by decide)
        simp only [putL, Act.put, List.setIfInBounds_toArray, List.set_cons_zero, List.set_cons_succ, Nat.zero_add, Nat.reduceAdd, e8, e9] at hK ⊢
        rw [if_pos (by rfl)]
        go_simp
        refine (ref_Wrong d _ _ _ ⟨_, rfl, okB.grow HD.out hw⟩).mono ?_
        rintro e w' ⟨rfl, hb⟩
        exact hK _ _ hb (by rw [HR.out]; rfl)
      · intro ys wx hw hd K hK
        have e8 : ys 8 = _ := hd 8 (by decide)
        have e10 : ys 10 = _ := hd 10 (by decide)
        simp only [putL, Act.put, List.setIfInBounds_toArray, List.set_cons_zero, List.set_cons_succ, Nat.zero_add, Nat.reduceAdd, e8, e10] at hK ⊢
        rw [if_pos (by rfl)]
        go_simp
        exact hK _ _ (Below.refl _ _) rfl
      · intro ys wx hw hd K hK
        have e8 : ys 8 = _ := hd 8 (by decide)
        have e11 : ys 11 = _ := hd 11 (by decide)
        simp only [putL, Act.put, List.setIfInBounds_toArray, List.set_cons_zero, List.set_cons_succ, Nat.zero_add, Nat.reduceAdd, e8, e11] at hK ⊢
        rw [if_pos (by rfl)]
        go_simp
        exact hK _ _ (Below.refl _ _) rfl
      · intro ys wx hw hd K hK
        have e12 : ys 12 = _ := hd 12 (by decide)
        simp only [putL, Act.put, List.setIfInBounds_toArray, List.set_cons_zero, List.set_cons_succ, Nat.zero_add, Nat.reduceAdd, e12] at hK ⊢
        rw [if_pos (by rfl)]
        obtain ⟨kb0, kb1, kb2, kb3⟩ := (BoxAt.four (HA.out.grow hw))
        go_simp
        exact hK _ _ (Below.refl _ _) rfl
      · intro ys wx hw hd K hK
        have e12 : ys 12 = _ := hd 12 (by decide)
        have e13 : ys 13 = _ := hd 13 (by decide)
        simp only [putL, Act.put, List.setIfInBounds_toArray, List.set_cons_zero, List.set_cons_succ, Nat.zero_add, Nat.reduceAdd, e12, e13] at hK ⊢
        rw [if_pos (by rfl)]
        go_simp
        refine (text_Print d _ _ _ ⟨_, rfl, okB.grow HD.out hw⟩ HR.out (HV.out.grow hw)).mono ?_
        rintro e w' ⟨rfl, hb⟩
        exact hK _ _ hb rfl
      · intro ys wx hw hd K hK
        have e12 : ys 12 = _ := hd 12 (by decide)
        simp only [putL, Act.put, List.setIfInBounds_toArray, List.set_cons_zero, List.set_cons_succ, Nat.zero_add, Nat.reduceAdd, e12] at hK ⊢
        rw [if_pos (by rfl)]
        obtain ⟨kb0, kb1, kb2, kb3⟩ := (BoxAt.four (HA.out.grow hw))
        go_simp
        exact hK _ _ (Below.refl _ _) rfl
      · intro ys wx hw hd K hK
        have e12 : ys 12 = _ := hd 12 (by decide)
        have e15 : ys 15 = _ := hd 15 (by decide)
        simp only [putL, Act.put, List.setIfInBounds_toArray, List.set_cons_zero, List.set_cons_succ, Nat.zero_add, Nat.reduceAdd, e12, e15] at hK ⊢
        rw [if_pos (by rfl)]
        go_simp
        refine (ref_Print d _ _ _ ⟨_, rfl, okB.grow HD.out hw⟩ HR.out (HV.out.grow hw)).mono ?_
        rintro e w' ⟨rfl, hb⟩
        exact hK _ _ hb rfl
      · intro ys wx hw hd K hK
        have e12 : ys 12 = _ := hd 12 (by decide)
        have e14 : ys 14 = _ := hd 14 (by decide)
        have e16 : ys 16 = _ := hd 16 (by decide)
        simp only [putL, Act.put, List.setIfInBounds_toArray, List.set_cons_zero, List.set_cons_succ, Nat.zero_add, Nat.reduceAdd, e12, e14, e16] at hK ⊢
        rw [if_pos (by rfl)]
        go_simp
        exact hK _ _ (Below.refl _ _) rfl
      · intro ys wx hw hd K hK
        have e8 : ys 8 = _ := hd 8 (by decide)
        have e12 : ys 12 = _ := hd 12 (by decide)
        have e17 : ys 17 = _ := hd 17 (by decide)
        simp only [putL, Act.put, List.setIfInBounds_toArray, List.set_cons_zero, List.set_cons_succ, Nat.zero_add, Nat.reduceAdd, e8, e12, e17] at hK ⊢
        rw [if_pos (by rfl)]
        go_simp
        exact hK _ _ (Below.refl _ _) rfl
      · intro ys wx hw hd K hK
        have e8 : ys 8 = _ := hd 8 (by decide)
        have e18 : ys 18 = _ := hd 18 (by decide)
        simp only [putL, Act.put, List.setIfInBounds_toArray, List.set_cons_zero, List.set_cons_succ, Nat.zero_add, Nat.reduceAdd, e8, e18] at hK ⊢
        rw [if_pos (by rfl)]
        go_simp
        exact hK _ _ (Below.refl _ _) rfl
      · intro ys wx hw hd K hK
        have e19 : ys 19 = _ := hd 19 (by decide)
        simp only [putL, Act.put, List.setIfInBounds_toArray, List.set_cons_zero, List.set_cons_succ, Nat.zero_add, Nat.reduceAdd, e19] at hK ⊢
        rw [if_pos (by rfl)]
        go_simp
        exact hK _ _ (Below.refl _ _) rfl
    · intro ys w' hl' hV
      have e20 : ys 20 = _ := hV 20 (by decide)
      clear hV
      simp only [putL, Act.put, List.setIfInBounds_toArray, List.set_cons_zero, List.set_cons_succ, Nat.zero_add, Nat.reduceAdd, e20]
      clear e20
      go_wp2
      go_ret
      exact ⟨rfl, HB.out.trans (hl'.mono HB.out.size)⟩
  · have hne : (wrongI d != 0) = true := by simpa using hr
    generalize hwo : wrongI d = er at *
    clear hr
    refine region_list [Cv (.int .i64 xe), Cv (.int .i64 xe), Cv (.bool true), Cv (.bool true), Cv (.agg #[.int .i64 xd.kind, .int .i64 xd.n, .int .i64 xd.m, .slice Ap xd.data.length cp]), Cv (.agg #[.int .i64 xd.kind, .int .i64 xd.n, .int .i64 xd.m, .slice Aq xd.data.length cq]), Cv (.bool true), Cv (.bool true), Cv (.bool true), Cv (.agg #[.int .i64 d.kind, .int .i64 d.n, .int .i64 d.m, .slice Ad d.data.length cd]), Cv (.int .i64 er), Cv (.bool true), Cv (.bool true), Cv (undef), Cv (undef), Cv (undef), Cv (undef), Cv (undef), Cv (.bool true), Cv (.bool true), Cv (.bool true)] (by kernel_rfl) (by kernel_rfl) (by kernel_rfl) ?_ ?_ ?_
    · repeat (first | exact trivial | refine ⟨mC _, ?_⟩ | refine ⟨mR okB _, ?_⟩ | refine ⟨mT, ?_⟩ | refine ⟨mR okBB _, ?_⟩ | refine ⟨mR okBBB _, ?_⟩ | refine ⟨mR (okL okI) _, ?_⟩ | refine ⟨mKt _, ?_⟩ | refine ⟨mRa _ _, ?_⟩)
    · simp only [StepsL]
      refine ⟨?_, ?_, ?_, ?_, ?_, ?_, ?_, ?_, ?_, ?_, ?_, ?_, ?_, ?_, ?_, ?_, ?_, ?_, ?_, ?_, ?_, trivial⟩
      · intro ys wx hw hd K hK
        simp only [putL, Act.put, List.setIfInBounds_toArray, List.set_cons_zero, List.set_cons_succ, Nat.zero_add, Nat.reduceAdd] at hK ⊢
        rw [if_pos (by rfl)]
        go_simp
        exact hK _ _ (Below.refl _ _) rfl
      · intro ys wx hw hd K hK
        simp only [putL, Act.put, List.setIfInBounds_toArray, List.set_cons_zero, List.set_cons_succ, Nat.zero_add, Nat.reduceAdd] at hK ⊢
        rw [if_pos (by rfl)]
        go_simp
        exact hK _ _ (Below.refl _ _) rfl
      · intro ys wx hw hd K hK
        have e0 : ys 0 = _ := hd 0 (by decide)
        have e1 : ys 1 = _ := hd 1 (by decide)
        simp only [putL, Act.put, List.setIfInBounds_toArray, List.set_cons_zero, List.set_cons_succ, Nat.zero_add, Nat.reduceAdd, e0, e1] at hK ⊢
        rw [if_pos (by rfl)]
        go_simp
        exact hK _ _ (Below.refl _ _) rfl
      · intro ys wx hw hd K hK
        have e2 : ys 2 = _ := hd 2 (by decide)
        simp only [putL, Act.put, List.setIfInBounds_toArray, List.set_cons_zero, List.set_cons_succ, Nat.zero_add, Nat.reduceAdd, e2] at hK ⊢
        rw [if_pos (by rfl)]
        go_simp
        exact hK _ _ (Below.refl _ _) rfl
      · intro ys wx hw hd K hK
        have e3 : ys 3 = _ := hd 3 (by decide)
        simp only [putL, Act.put, List.setIfInBounds_toArray, List.set_cons_zero, List.set_cons_succ, Nat.zero_add, Nat.reduceAdd, e3] at hK ⊢
        rw [if_pos (by rfl)]
        obtain ⟨kb0, kb1, kb2, kb3⟩ := (BoxAt.four (HP.out.grow hw))
        go_simp
        exact hK _ _ (Below.refl _ _) rfl
      · intro ys wx hw hd K hK
        have e3 : ys 3 = _ := hd 3 (by decide)
        simp only [putL, Act.put, List.setIfInBounds_toArray, List.set_cons_zero, List.set_cons_succ, Nat.zero_add, Nat.reduceAdd, e3] at hK ⊢
        rw [if_pos (by rfl)]
        obtain ⟨kb0, kb1, kb2, kb3⟩ := (BoxAt.four (HQ.out.grow hw))
        go_simp
        exact hK _ _ (Below.refl _ _) rfl
      · intro ys wx hw hd K hK
        have e3 : ys 3 = _ := hd 3 (by decide)
        have e4 : ys 4 = _ := hd 4 (by decide)
        have e5 : ys 5 = _ := hd 5 (by decide)
        simp only [putL, Act.put, List.setIfInBounds_toArray, List.set_cons_zero, List.set_cons_succ, Nat.zero_add, Nat.reduceAdd, e3, e4, e5] at hK ⊢
        rw [if_pos (by rfl)]
        go_simp
        refine (ref_SameDeed xd xd _ _ (fun _ => True) _ ⟨_, rfl, okB.mono (okB.grow HU.out hw) fun _ _ => trivial⟩ ⟨_, rfl, okB.mono (okB.grow HY.out hw) fun _ _ => trivial⟩).mono ?_
        rintro e w' ⟨rfl, hb⟩
        exact hK _ _ hb (by rw [(sameD_iff xd xd).2 rfl]; rfl)
      · intro ys wx hw hd K hK
        have e3 : ys 3 = _ := hd 3 (by decide)
        have e6 : ys 6 = _ := hd 6 (by decide)
        simp only [putL, Act.put, List.setIfInBounds_toArray, List.set_cons_zero, List.set_cons_succ, Nat.zero_add, Nat.reduceAdd, e3, e6] at hK ⊢
        rw [if_pos (by rfl)]
        go_simp
        exact hK _ _ (Below.refl _ _) rfl
      · intro ys wx hw hd K hK
        have e7 : ys 7 = _ := hd 7 (by decide)
        simp only [putL, Act.put, List.setIfInBounds_toArray, List.set_cons_zero, List.set_cons_succ, Nat.zero_add, Nat.reduceAdd, e7] at hK ⊢
        rw [if_pos (by rfl)]
        go_simp
        exact hK _ _ (Below.refl _ _) rfl
      · intro ys wx hw hd K hK
        have e8 : ys 8 = _ := hd 8 (by decide)
        simp only [putL, Act.put, List.setIfInBounds_toArray, List.set_cons_zero, List.set_cons_succ, Nat.zero_add, Nat.reduceAdd, e8] at hK ⊢
        rw [if_pos (by rfl)]
        obtain ⟨kb0, kb1, kb2, kb3⟩ := (BoxAt.four (HA.out.grow hw))
        go_simp
        exact hK _ _ (Below.refl _ _) rfl
      · intro ys wx hw hd K hK
        have e8 : ys 8 = _ := hd 8 (by decide)
        have e9 : ys 9 = _ := hd 9 (by decide)
        simp only [putL, Act.put, List.setIfInBounds_toArray, List.set_cons_zero, List.set_cons_succ, Nat.zero_add, Nat.reduceAdd, e8, e9] at hK ⊢
        rw [if_pos (by rfl)]
        go_simp
        refine (ref_Wrong d _ _ _ ⟨_, rfl, okB.grow HD.out hw⟩).mono ?_
        rintro e w' ⟨rfl, hb⟩
        exact hK _ _ hb (by rw [hwo]; rfl)
      · intro ys wx hw hd K hK
        have e8 : ys 8 = _ := hd 8 (by decide)
        have e10 : ys 10 = _ := hd 10 (by decide)
        simp only [putL, Act.put, List.setIfInBounds_toArray, List.set_cons_zero, List.set_cons_succ, Nat.zero_add, Nat.reduceAdd, e8, e10] at hK ⊢
        rw [if_pos (by rfl)]
        go_simp
        exact hK _ _ (Below.refl _ _) rfl
      · intro ys wx hw hd K hK
        have e8 : ys 8 = _ := hd 8 (by decide)
        have e11 : ys 11 = _ := hd 11 (by decide)
        simp only [putL, Act.put, List.setIfInBounds_toArray, List.set_cons_zero, List.set_cons_succ, Nat.zero_add, Nat.reduceAdd, e8, e11] at hK ⊢
        rw [if_pos (by rfl)]
        go_simp
        exact hK _ _ (Below.refl _ _) rfl
      · intro ys wx hw hd K hK
        have e12 : ys 12 = _ := hd 12 (by decide)
        simp only [putL, Act.put, List.setIfInBounds_toArray, List.set_cons_zero, List.set_cons_succ, Nat.zero_add, Nat.reduceAdd, e12] at hK ⊢
        rw [if_neg (by exact Bool.false_ne_true)]
        exact hK _ _ (Below.refl _ _) rfl
      · intro ys wx hw hd K hK
        have e12 : ys 12 = _ := hd 12 (by decide)
        have e13 : ys 13 = _ := hd 13 (by decide)
        simp only [putL, Act.put, List.setIfInBounds_toArray, List.set_cons_zero, List.set_cons_succ, Nat.zero_add, Nat.reduceAdd, e12, e13] at hK ⊢
        rw [if_neg (by exact Bool.false_ne_true)]
        exact hK _ _ (Below.refl _ _) rfl
      · intro ys wx hw hd K hK
        have e12 : ys 12 = _ := hd 12 (by decide)
        simp only [putL, Act.put, List.setIfInBounds_toArray, List.set_cons_zero, List.set_cons_succ, Nat.zero_add, Nat.reduceAdd, e12] at hK ⊢
        rw [if_neg (by exact Bool.false_ne_true)]
        exact hK _ _ (Below.refl _ _) rfl
      · intro ys wx hw hd K hK
        have e12 : ys 12 = _ := hd 12 (by decide)
        have e15 : ys 15 = _ := hd 15 (by decide)
        simp only [putL, Act.put, List.setIfInBounds_toArray, List.set_cons_zero, List.set_cons_succ, Nat.zero_add, Nat.reduceAdd, e12, e15] at hK ⊢
        rw [if_neg (by exact Bool.false_ne_true)]
        exact hK _ _ (Below.refl _ _) rfl
      · intro ys wx hw hd K hK
        have e12 : ys 12 = _ := hd 12 (by decide)
        have e14 : ys 14 = _ := hd 14 (by decide)
        have e16 : ys 16 = _ := hd 16 (by decide)
        simp only [putL, Act.put, List.setIfInBounds_toArray, List.set_cons_zero, List.set_cons_succ, Nat.zero_add, Nat.reduceAdd, e12, e14, e16] at hK ⊢
        rw [if_neg (by exact Bool.false_ne_true)]
        exact hK _ _ (Below.refl _ _) rfl
      · intro ys wx hw hd K hK
        have e8 : ys 8 = _ := hd 8 (by decide)
        have e12 : ys 12 = _ := hd 12 (by decide)
        have e17 : ys 17 = _ := hd 17 (by decide)
        simp only [putL, Act.put, List.setIfInBounds_toArray, List.set_cons_zero, List.set_cons_succ, Nat.zero_add, Nat.reduceAdd, e8, e12, e17] at hK ⊢
        rw [if_pos (by rfl)]
        go_simp
        exact hK _ _ (Below.refl _ _) rfl
      · intro ys wx hw hd K hK
        have e8 : ys 8 = _ := hd 8 (by decide)
        have e18 : ys 18 = _ := hd 18 (by decide)
        simp only [putL, Act.put, List.setIfInBounds_toArray, List.set_cons_zero, List.set_cons_succ, Nat.zero_add, Nat.reduceAdd, e8, e18] at hK ⊢
        rw [if_pos (by rfl)]
        go_simp
        exact hK _ _ (Below.refl _ _) rfl
      · intro ys wx hw hd K hK
        have e19 : ys 19 = _ := hd 19 (by decide)
        simp only [putL, Act.put, List.setIfInBounds_toArray, List.set_cons_zero, List.set_cons_succ, Nat.zero_add, Nat.reduceAdd, e19] at hK ⊢
        rw [if_pos (by rfl)]
        go_simp
        exact hK _ _ (Below.refl _ _) rfl
    · intro ys w' hl' hV
      have e20 : ys 20 = _ := hV 20 (by decide)
      clear hV
      simp only [putL, Act.put, List.setIfInBounds_toArray, List.set_cons_zero, List.set_cons_succ, Nat.zero_add, Nat.reduceAdd, e20]
      clear e20
      go_wp2
      go_ret
      exact ⟨rfl, HB.out.trans (hl'.mono HB.out.size)⟩
namespace textTellsDone
open Go.ChangeShapes Go.WideShapes Go.ChangeAt Go.RowKit M
open Go.ChangeMaps (open_string shut_string)
set_option linter.unusedVariables false
set_option maxRecDepth 100000 in
theorem contract (H : Type) (enc : TypeId × Value → H) (W : World) (base : Nat) (args : Array Value) (ds gs : List (DataW H)) (before : List MemPlace)
    (hval0 : ∀ (j : Nat) t v, Tryd.f3.params[j]? = some t → args[j]? = some v → Value.okWide Tryd.prog W .any base t v)
    (hW : DataW.Whole enc Tryd.prog Tryd.f3.params.toList Rows.textTellsSpec.vars false W args.toList ds gs before) (hL : laidMetH Tryd.prog Rows.textTellsRow.laid W) (hs : W.ShapedOpen Tryd.prog) (hsm : Rows.uptoSmall H (ds ++ gs) = true) :
    Calls Tryd.prog 3 args W fun e W' => ∃ v, e = .returned v ∧ Rows.textTellsSpec.post enc Tryd.prog Tryd.f3 false true false false W args v W' := by
  have hval : ∀ (j : Nat) t v, Tryd.f3.params[j]? = some t → args[j]? = some v → Value.okWide Tryd.prog W .any base t v := hval0
  have hW' := hW
  obtain ⟨p, q, hA0, hV, rfl, hfz, hnd⟩ := hW
  have hA : DataW.TrodAll enc Tryd.prog W 0 (fun _ => true) true Tryd.f3.params.toList args.toList ds p := hA0
  rw [Tryd.params3] at hA hval
  obtain ⟨v0, vs0, d0, ds0, p0, q0, hargs, rfl, rfl, h0, r0⟩ := trodAll_cons hA
  obtain ⟨v1, vs1, d1, ds1, p1, q1, rfl, rfl, rfl, h1, r1⟩ := trodAll_cons r0
  obtain ⟨rfl, rfl, rfl⟩ := trodAll_nil r1
  obtain rfl : args = #[v0, v1] := by cases args; simp_all
  obtain ⟨rfl, rfl⟩ := trodVars_none hV
  obtain ⟨a0, rfl, rfl, rfl, w0⟩ := open_string Tryd.underlying9 (hval 0 9 v0 rfl rfl) h0
  obtain ⟨b1, w1⟩ := open_deed (hval 1 24 v1 rfl rfl) h1
  have k1 := h1
  have lt1 : ∀ x ∈ p1, x.block < W.heap.size := by obtain ⟨m, hm⟩ := k1; exact DataW.trod_lt m _ _ _ hm
  have z0 : a0.size ≤ 1048576 := by
    have hb := of_decide_eq_true hsm
    simp only [List.append_nil, Rows.uptoBulkAll, Rows.uptoBulk] at hb
    have hz : a0.data.toList.length = a0.size := rfl
    omega
  clear hA0 hval0
  refine (textTells_walk a0 b1 _ W (vars_of hL hs) z0 w1).mono fun e W' ⟨he, bel⟩ => ?_
  subst he
  exact ⟨_, rfl, _, _, _, [], _, [], hW', trodAll_mk1 (shut_bool Tryd.underlying4 _), (trodAll_cons_mk (shut_string Tryd.underlying9 w0) (trodAll_cons_mk (Below.trod laidOut (by kernel_rfl) (of_decide_eq_true (by kernel_rfl)) k1 bel lt1) trodAll_mk0)), rfl, bel.frame _, fun h => by cases h⟩
set_option maxRecDepth 100000 in
theorem reads (os : Os) {H : Type} (enc : TypeId × Value → H) : ∃ places, DataW.whole enc Tryd.prog ((laidWorld os).forCall (fun _ _ => 0) ⟨#[], #[.string ByteArray.empty, .agg #[.int .i64 0, .int .i64 0, .int .i64 0, .slice none 0 0]], []⟩).memory Tryd.f3.params.toList Rows.textTellsSpec.vars false (#[.string ByteArray.empty, .agg #[.int .i64 0, .int .i64 0, .int .i64 0, .slice none 0 0]] : Array Value).toList 8 = some ([.lit (.string []), .agg [.lit (.int .i64 0), .lit (.int .i64 0), .lit (.int .i64 0), .nil]], [], places) :=
  ⟨[], by kernel_rfl⟩
set_option maxRecDepth 100000 in
theorem lifted (os : Os) (started : os.Started) (H : Type) (enc : TypeId × Value → H) (F : Stop.Interp) :
    ReturnsInHanded {} Tryd.checked os 3 .any ((Rows.OpenSpec.upto Rows.textTellsSpec).preRow enc Tryd.prog Tryd.f3 Rows.textTellsUptoRow.domain false Rows.textTellsUptoRow.laid) (((Rows.OpenSpec.upto Rows.textTellsSpec).at F).post enc Tryd.prog Tryd.f3 false true false false) := by
  obtain ⟨places, hx⟩ := reads os enc
  refine returnsInHanded_of_row (C := Tryd.checked) (s := Rows.OpenSpec.upto Rows.textTellsSpec) own started (by kernel_rfl) Tryd.func3
    (witness_row_atRef (enc := enc) (C := Tryd.checked) false (laidWorld os) #[.string ByteArray.empty, .agg #[.int .i64 0, .int .i64 0, .int .i64 0, .slice none 0 0]] rfl (by kernel_rfl) (by kernel_rfl) (by kernel_rfl)
      (OpenSpec.preRow_of_cond 8 hx (by kernel_rfl) (fun k hk => by cases hk; kernel_rfl) (by kernel_rfl) (laid_metH os _))) ?_
  intro W base args ds gs before hval hW _ hcond _ hL hs _
  exact contract H enc W base args ds gs before hval hW hL hs (hcond _ rfl)
theorem said : Rows.textTellsUptoRow.holds Tryd.pinned (Rows.OpenSpec.upto Rows.textTellsSpec) :=
  OpenClaim.holds_of_cond 3 Tryd.f3 rfl rfl rfl rfl rfl rfl rfl ⟨rfl, rfl, rfl, rfl, rfl⟩ rfl rfl rfl rfl rfl (by kernel_rfl) Tryd.func3 (by kernel_rfl)
    (of_decide_eq_true (by kernel_rfl)) (by unfold Func.isWrapper; first | (rw [if_pos (by decide +kernel)]; kernel_rfl) | (rw [if_neg (by decide +kernel)]; exact ⟨rfl, rfl⟩))
    (fun os started H enc _ F => by rw [OpenClaim.pre_eq_preRow]; exact lifted os started H enc F)
theorem plain (f : FuncId) (fn : Func) (hf : Tryd.pinned.checked.prog.funcNamed Rows.textTellsUptoRow.func = some f) (hfn : Tryd.pinned.checked.prog.funcs[f]? = some fn) :
    true = Tryd.pinned.checked.prog.looks [] ∧ ∀ (j : Nat) t, fn.params[j]? = some t → Tryd.pinned.checked.prog.wantsStandIn t = false := by
  obtain rfl : f = 3 := Option.some.inj ((show Tryd.prog.funcNamed Rows.textTellsUptoRow.func = some 3 by kernel_rfl).symm.trans hf) |>.symm
  obtain rfl : fn = Tryd.f3 := (Option.some.inj (Tryd.func3.symm.trans hfn)).symm
  refine ⟨by kernel_rfl, fun j t ht => ?_⟩
  rw [Tryd.params3] at ht
  have hm : t ∈ ([9, 24] : List TypeId) := by simpa using Array.mem_of_getElem? ht
  have hall : (([9, 24] : List TypeId).all fun u => !Tryd.prog.wantsStandIn u) = true := by kernel_rfl
  exact (show Tryd.prog.wantsStandIn t = false by simpa using List.all_eq_true.1 hall t hm)
/-- The card. -/
theorem proved : Rows.TextTellsUptoCardSaid :=
  Claim7.holds_tied_plain_at .later [] _ _ _ _ said (fun _ h => by cases h) (by kernel_rfl) (fun _ h => by cases h) textTellsUpto_row_tie rfl ⟨rfl, rfl⟩ (by kernel_rfl) rfl plain (by kernel_rfl)
end textTellsDone
end Go.Proofs.YtdcmbdghnkgghaaDoor

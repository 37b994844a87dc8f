/- TextTurns: the walk: for every input of at most 1048576 letters the call returns true. -/
import Derived.Test.YtdcmbdghnkgghaaDoorT12
import Derived.Test.YtdcmbdghnkgghaaDoorT9
namespace Go.Proofs.YtdcmbdghnkgghaaDoor
set_option linter.unusedVariables false
open Go Go.RowKit M
theorem sz_print {d : Deed} (hr : wrongI d = 0) : (strB (printP d)).size ≤ 1048576 := by
  rw [strB_size]
  obtain ⟨hn, hq⟩ := wrong_ok hr
  obtain ⟨n, hn1⟩ : ∃ n : Nat, d.n = n := ⟨d.n.toNat, by have := hn.1; omega⟩
  have e1 : (Lib.itoa d.n).length = 1 := by rw [hn1]; exact itoa_short ⟨n, by have := hn.2; omega⟩
  unfold printP
  rcases hq with ⟨hk, _, hl⟩ | ⟨hk, hm, _⟩
  · rw [if_neg (by omega)]
    have e2 := hexOut_len d.data
    simp only [wordW, List.length_append, List.length_cons, List.length_nil]
    omega
  · rw [if_pos hk]
    obtain ⟨m, hm1⟩ : ∃ m : Nat, d.m = m := ⟨d.m.toNat, by have := hm.1; omega⟩
    have e2 : (Lib.itoa d.m).length = 1 := by rw [hm1]; exact itoa_short ⟨m, by have := hm.2; omega⟩
    simp only [wordS, List.length_append, List.length_cons, List.length_nil]
    omega
theorem print_inj {d o : Deed} (hd : wrongI d = 0) (ho : wrongI o = 0) : (printP d == printP o) = sameD d o := by
  have hi := sameD_iff d o
  cases hs : sameD d o
  · rw [beq_eq_false_iff_ne]
    intro e
    have p1 := parse_print hd
    rw [e, parse_print ho] at p1
    injection p1 with p1
    rw [hs] at hi
    exact absurd (hi.2 p1.symm) (by decide)
  · rw [hs] at hi
    rw [beq_iff_eq, hi.1 rfl]
theorem same_refl (d : Deed) : sameD d d = true := (sameD_iff d d).2 rfl
/-- What stays known of the two deeds. -/
structure TT (w w' : World) (d o : Deed) (Ad : Option Addr) (cd : Nat) (Ao : Option Addr) (co : Nat) : Prop where
  bd : BoxAt w' w.heap.size 24 [.int .i64 d.kind, .int .i64 d.n, .int .i64 d.m, .slice Ad d.data.length cd]
  bo : BoxAt w' (w.heap.size + 1) 24 [.int .i64 o.kind, .int .i64 o.n, .int .i64 o.m, .slice Ao o.data.length co]
  rd : RdB w' (fun k => k < w.heap.size) (.slice Ad d.data.length cd) d.data
  ro : RdB w' (fun k => k < w.heap.size) (.slice Ao o.data.length co) o.data
  vs : Vars w'
  be : Below w.heap.size w w'
theorem TT.grow {w w' w2 : World} {d o : Deed} {Ad : Option Addr} {cd : Nat} {Ao : Option Addr} {co : Nat} (h : TT w w' d o Ad cd Ao co) (hb : Below w'.heap.size w' w2) : TT w w2 d o Ad cd Ao co :=
  ⟨h.bd.grow hb, h.bo.grow hb, okB.grow h.rd hb, okB.grow h.ro hb, h.vs.grow hb, h.be.trans (hb.mono h.be.size)⟩
set_option maxRecDepth 100000 in
set_option maxHeartbeats 6400000 in
theorem textTurns_walk (s : ByteArray) (d : Deed) (vd : Value) (o : Deed) (vo : Value) (w : World) (hv : Vars w) (hs : s.size ≤ 1048576) (hd : RdD w (fun _ => True) vd d) (ho : RdD w (fun _ => True) vo o) :
    Calls Tryd.prog 4 #[.string s, vd, vo] w fun e w' => e = .returned (.bool true) ∧ Below w.heap.size w w' := by
  obtain ⟨dv, rfl, hdv⟩ := hd
  obtain ⟨ov, rfl, hov⟩ := ho
  replace hdv := okB.lt hdv
  replace hov := okB.lt hov
  obtain ⟨Ad, cd, rfl, _, _⟩ := hdv.shape
  obtain ⟨Ao, co, rfl, _, _⟩ := hov.shape
  obtain ⟨w1, hW, hA, hX, hB, hsz⟩ := boxes2 w [.int .i64 d.kind, .int .i64 d.n, .int .i64 d.m, .slice Ad d.data.length cd] [.int .i64 o.kind, .int .i64 o.n, .int .i64 o.m, .slice Ao o.data.length co] 24 24
  change ((w.alloc (.cells #[.int .i64 d.kind, .int .i64 d.n, .int .i64 d.m, .slice Ad d.data.length cd] 24)).alloc (.cells #[.int .i64 o.kind, .int .i64 o.n, .int .i64 o.m, .slice Ao o.data.length co] 24)) = w1 at hW
  have HT := Lib.hid (TT.mk hA hX (okB.mono (okB.grow hdv hB) (F' := fun k => k < w.heap.size) fun k hk => hk.2) (okB.mono (okB.grow hov hB) (F' := fun k => k < w.heap.size) fun k hk => hk.2) (hv.grow hB) hB)
  have HSZ := Lib.hid hs
  clear hv hdv hov hA hX hB hsz hs
  go_enter Tryd.func4, Tryd.ntmps4
  go_wp2_with fail
  clear hW
  refine (law6_alive _ HT.out.vs).mono ?_
  rintro e w2 ⟨rfl, hb⟩
  replace HT := Lib.hid (HT.out.grow hb)
  clear hb
  obtain ⟨p0, p1, p2, p3⟩ := HT.out.bd.four
  go_wp2_with fail
  clear p0 p1 p2 p3
  refine (ref_Wrong d _ _ _ ⟨_, rfl, HT.out.rd⟩).mono ?_
  rintro e w3 ⟨rfl, hb⟩
  replace HT := Lib.hid (HT.out.grow hb)
  clear hb
  by_cases hr : wrongI d = 0
  rotate_left
  · have hne : (wrongI d == 0) = false := by simpa using hr
    generalize wrongI d = er at *
    clear hr
    go_wp2_with fail
    refine (text_Parse s HSZ.out _ HT.out.vs).mono ?_
    rintro e wp ⟨vp, rfl, hrp, hbp⟩
    obtain ⟨xd, xe, hxp⟩ : ∃ a b, parseP s.data.toList = (a, b) := ⟨_, _, rfl⟩
    rw [hxp] at hrp ⊢
    obtain ⟨up, rfl, hup⟩ := hrp
    replace hup := okB.lt hup
    obtain ⟨Ap, cp, rfl, _, _⟩ := hup.shape
    have hZ := boxAt_new wp 24 [.int .i64 xd.kind, .int .i64 xd.n, .int .i64 xd.m, .slice Ap xd.data.length cp]
    have hal := below_alloc wp (.cells #[.int .i64 xd.kind, .int .i64 xd.n, .int .i64 xd.m, .slice Ap xd.data.length cp] 24)
    have huq := okB.grow hup hal
    have htq := (HT.out.grow hbp).grow hal
    obtain ⟨wq, hwq⟩ : ∃ x, wp.alloc (.cells #[.int .i64 xd.kind, .int .i64 xd.n, .int .i64 xd.m, .slice Ap xd.data.length cp] 24) = x := ⟨_, rfl⟩
    change BoxAt (wp.alloc (.cells #[.int .i64 xd.kind, .int .i64 xd.n, .int .i64 xd.m, .slice Ap xd.data.length cp] 24)) _ _ _ at hZ
    rw [hwq] at hZ huq htq
    obtain ⟨Bp, hBp⟩ : ∃ b, wp.heap.size = b := ⟨_, rfl⟩
    rw [hBp] at hZ
    replace HT := Lib.hid htq
    have HU := Lib.hid huq
    have HZ := Lib.hid hZ
    obtain ⟨y0, y1, y2, y3⟩ := hZ.four
    clear hZ hal hup huq htq hbp
    by_cases hxe : xe = 0
    · subst hxe
      have HPP := Lib.hid (print_parse hxp)
      clear hxp
      go_wp2_with fail
      clear hwq y0 y1 y2 y3
      refine (text_Print xd _ _ _ ⟨_, rfl, HU.out⟩ HPP.out.2 HT.out.vs).mono ?_
      rintro e wr ⟨rfl, hb⟩
      have hps : strB (printP xd) = s := by rw [HPP.out.1]; rfl
      rw [hps]
      replace HT := Lib.hid (HT.out.grow hb)
      replace HU := Lib.hid (okB.grow HU.out hb)
      replace HZ := Lib.hid (HZ.out.grow hb)
      obtain ⟨y0, y1, y2, y3⟩ := HZ.out.four
      clear hb hps
      go_wp2_with fail
      clear y0 y1 y2 y3
      refine (ref_Wrong xd _ _ _ ⟨_, rfl, HU.out⟩).mono ?_
      rintro e wt ⟨rfl, hb⟩
      rw [HPP.out.2]
      replace HT := Lib.hid (HT.out.grow hb)
      clear hb
      go_wp2_with fail
      go_ret
      exact ⟨rfl, HT.out.be⟩
    · have hne : (xe != 0) = true := by simpa using hxe
      clear hxe hxp
      go_wp2_with fail
      go_ret
      exact ⟨rfl, HT.out.be⟩
  have HR := Lib.hid hr
  rw [hr]
  clear hr
  obtain ⟨p0, p1, p2, p3⟩ := HT.out.bd.four
  go_wp2_with fail
  clear p0 p1 p2 p3
  refine (text_Print d _ _ _ ⟨_, rfl, HT.out.rd⟩ HR.out HT.out.vs).mono ?_
  rintro e w4 ⟨rfl, hb⟩
  replace HT := Lib.hid (HT.out.grow hb)
  clear hb
  obtain ⟨pd, hpd⟩ : ∃ x, strB (printP d) = x := ⟨_, rfl⟩
  have HPD := Lib.hid hpd
  rw [hpd]
  clear hpd
  go_wp2_with fail
  refine (text_Parse pd (by rw [← HPD.out]; exact sz_print HR.out) _ HT.out.vs).mono ?_
  rintro e w5 ⟨v5, rfl, hr5, hb5⟩
  have ep : parseP pd.data.toList = (d, 0) := by rw [← HPD.out]; exact parse_print HR.out
  rw [ep] at hr5 ⊢
  clear ep
  obtain ⟨u5, rfl, hu5⟩ := hr5
  replace hu5 := okB.lt hu5
  obtain ⟨A5, c5, rfl, _, _⟩ := hu5.shape
  have hY := boxAt_new w5 24 [.int .i64 d.kind, .int .i64 d.n, .int .i64 d.m, .slice A5 d.data.length c5]
  have hal := below_alloc w5 (.cells #[.int .i64 d.kind, .int .i64 d.n, .int .i64 d.m, .slice A5 d.data.length c5] 24)
  have hu6 := okB.grow hu5 hal
  have ht6 := (HT.out.grow hb5).grow hal
  obtain ⟨w6, hw6⟩ : ∃ x, w5.alloc (.cells #[.int .i64 d.kind, .int .i64 d.n, .int .i64 d.m, .slice A5 d.data.length c5] 24) = x := ⟨_, rfl⟩
  change BoxAt (w5.alloc (.cells #[.int .i64 d.kind, .int .i64 d.n, .int .i64 d.m, .slice A5 d.data.length c5] 24)) _ _ _ at hY
  rw [hw6] at hY hu6 ht6
  obtain ⟨B5, hB5⟩ : ∃ b, w5.heap.size = b := ⟨_, rfl⟩
  rw [hB5] at hY
  replace HT := Lib.hid ht6
  have HU := Lib.hid hu6
  obtain ⟨y0, y1, y2, y3⟩ := hY.four
  obtain ⟨p0, p1, p2, p3⟩ := HT.out.bd.four
  clear hY hal hu5 hu6 ht6 hb5
  go_wp2_with fail
  clear y0 y1 y2 y3 p0 p1 p2 p3 hw6
  refine (ref_SameDeed d d _ _ (fun _ => True) _ ⟨_, rfl, okB.mono HT.out.rd fun _ _ => trivial⟩ ⟨_, rfl, okB.mono HU.out fun _ _ => trivial⟩).mono ?_
  rintro e w7 ⟨rfl, hb⟩
  replace HT := Lib.hid (HT.out.grow hb)
  rw [same_refl]
  clear hb HU hB5
  go_wp2_with fail
  by_cases hro : wrongI o = 0
  rotate_left
  · have hne : (wrongI o == 0) = false := by simpa using hro
    generalize hwo : wrongI o = er at *
    clear hro
    refine region_list [Cv (.agg #[.int .i64 o.kind, .int .i64 o.n, .int .i64 o.m, .slice Ao o.data.length co]), Cv (.int .i64 er), Cv (.bool false), Cv (.bool false), Cv (undef), Cv (undef), Cv (undef), Cv (undef), Cv (undef), Cv (undef), Cv (undef), Cv (undef), Cv (undef), Cv (.bool false)] (by kernel_rfl) (by kernel_rfl) (by kernel_rfl) ?_ ?_ ?_
    · repeat (first | exact trivial | refine ⟨mC _, ?_⟩ | refine ⟨mR okB _, ?_⟩ | refine ⟨mT, ?_⟩ | refine ⟨mR okBB _, ?_⟩ | refine ⟨mR okBBB _, ?_⟩ | refine ⟨mR (okL okI) _, ?_⟩ | refine ⟨mKt _, ?_⟩ | refine ⟨mRa _ _, ?_⟩)
    · simp only [StepsL]
      refine ⟨?_, ?_, ?_, ?_, ?_, ?_, ?_, ?_, ?_, ?_, ?_, ?_, ?_, ?_, trivial⟩
      · intro ys wx hw hd K hK
        simp only [putL, Act.put, List.setIfInBounds_toArray, List.set_cons_zero, List.set_cons_succ, Nat.zero_add, Nat.reduceAdd] at hK ⊢
        rw [if_pos (by rfl)]
        obtain ⟨kb0, kb1, kb2, kb3⟩ := (BoxAt.four (HT.out.bo.grow hw))
        go_simp
        exact hK _ _ (Below.refl _ _) rfl
      · intro ys wx hw hd K hK
        have e0 : ys 0 = _ := hd 0 (by decide)
        simp only [putL, Act.put, List.setIfInBounds_toArray, List.set_cons_zero, List.set_cons_succ, Nat.zero_add, Nat.reduceAdd, e0] at hK ⊢
        rw [if_pos (by rfl)]
        go_simp
        refine (ref_Wrong o _ _ _ ⟨_, rfl, (HT.out.grow hw).ro⟩).mono ?_
        rintro e w' ⟨rfl, hb⟩
        exact hK _ _ hb (by rw [hwo]; rfl)
      · intro ys wx hw hd K hK
        have e1 : ys 1 = _ := hd 1 (by decide)
        simp only [putL, Act.put, List.setIfInBounds_toArray, List.set_cons_zero, List.set_cons_succ, Nat.zero_add, Nat.reduceAdd, e1] at hK ⊢
        rw [if_pos (by rfl)]
        go_simp
        exact hK _ _ (Below.refl _ _) rfl
      · intro ys wx hw hd K hK
        have e2 : ys 2 = _ := hd 2 (by decide)
        simp only [putL, Act.put, List.setIfInBounds_toArray, List.set_cons_zero, List.set_cons_succ, Nat.zero_add, Nat.reduceAdd, e2] at hK ⊢
        rw [if_pos (by rfl)]
        go_simp
        exact hK _ _ (Below.refl _ _) rfl
      · intro ys wx hw hd K hK
        have e3 : ys 3 = _ := hd 3 (by decide)
        simp only [putL, Act.put, List.setIfInBounds_toArray, List.set_cons_zero, List.set_cons_succ, Nat.zero_add, Nat.reduceAdd, e3] at hK ⊢
        rw [if_neg (by exact Bool.false_ne_true)]
        exact hK _ _ (Below.refl _ _) rfl
      · intro ys wx hw hd K hK
        have e3 : ys 3 = _ := hd 3 (by decide)
        have e4 : ys 4 = _ := hd 4 (by decide)
        simp only [putL, Act.put, List.setIfInBounds_toArray, List.set_cons_zero, List.set_cons_succ, Nat.zero_add, Nat.reduceAdd, e3, e4] at hK ⊢
        rw [if_neg (by exact Bool.false_ne_true)]
        exact hK _ _ (Below.refl _ _) rfl
      · intro ys wx hw hd K hK
        have e3 : ys 3 = _ := hd 3 (by decide)
        simp only [putL, Act.put, List.setIfInBounds_toArray, List.set_cons_zero, List.set_cons_succ, Nat.zero_add, Nat.reduceAdd, e3] at hK ⊢
        rw [if_neg (by exact Bool.false_ne_true)]
        exact hK _ _ (Below.refl _ _) rfl
      · intro ys wx hw hd K hK
        have e3 : ys 3 = _ := hd 3 (by decide)
        have e6 : ys 6 = _ := hd 6 (by decide)
        simp only [putL, Act.put, List.setIfInBounds_toArray, List.set_cons_zero, List.set_cons_succ, Nat.zero_add, Nat.reduceAdd, e3, e6] at hK ⊢
        rw [if_neg (by exact Bool.false_ne_true)]
        exact hK _ _ (Below.refl _ _) rfl
      · intro ys wx hw hd K hK
        have e3 : ys 3 = _ := hd 3 (by decide)
        have e5 : ys 5 = _ := hd 5 (by decide)
        have e7 : ys 7 = _ := hd 7 (by decide)
        simp only [putL, Act.put, List.setIfInBounds_toArray, List.set_cons_zero, List.set_cons_succ, Nat.zero_add, Nat.reduceAdd, e3, e5, e7] at hK ⊢
        rw [if_neg (by exact Bool.false_ne_true)]
        exact hK _ _ (Below.refl _ _) rfl
      · intro ys wx hw hd K hK
        have e3 : ys 3 = _ := hd 3 (by decide)
        simp only [putL, Act.put, List.setIfInBounds_toArray, List.set_cons_zero, List.set_cons_succ, Nat.zero_add, Nat.reduceAdd, e3] at hK ⊢
        rw [if_neg (by exact Bool.false_ne_true)]
        exact hK _ _ (Below.refl _ _) rfl
      · intro ys wx hw hd K hK
        have e3 : ys 3 = _ := hd 3 (by decide)
        simp only [putL, Act.put, List.setIfInBounds_toArray, List.set_cons_zero, List.set_cons_succ, Nat.zero_add, Nat.reduceAdd, e3] at hK ⊢
        rw [if_neg (by exact Bool.false_ne_true)]
        exact hK _ _ (Below.refl _ _) rfl
      · intro ys wx hw hd K hK
        have e3 : ys 3 = _ := hd 3 (by decide)
        have e9 : ys 9 = _ := hd 9 (by decide)
        have e10 : ys 10 = _ := hd 10 (by decide)
        simp only [putL, Act.put, List.setIfInBounds_toArray, List.set_cons_zero, List.set_cons_succ, Nat.zero_add, Nat.reduceAdd, e3, e9, e10] at hK ⊢
        rw [if_neg (by exact Bool.false_ne_true)]
        exact hK _ _ (Below.refl _ _) rfl
      · intro ys wx hw hd K hK
        have e3 : ys 3 = _ := hd 3 (by decide)
        have e8 : ys 8 = _ := hd 8 (by decide)
        have e11 : ys 11 = _ := hd 11 (by decide)
        simp only [putL, Act.put, List.setIfInBounds_toArray, List.set_cons_zero, List.set_cons_succ, Nat.zero_add, Nat.reduceAdd, e3, e8, e11] at hK ⊢
        rw [if_neg (by exact Bool.false_ne_true)]
        exact hK _ _ (Below.refl _ _) rfl
      · intro ys wx hw hd K hK
        have e3 : ys 3 = _ := hd 3 (by decide)
        have e12 : ys 12 = _ := hd 12 (by decide)
        simp only [putL, Act.put, List.setIfInBounds_toArray, List.set_cons_zero, List.set_cons_succ, Nat.zero_add, Nat.reduceAdd, e3, e12] at hK ⊢
        rw [if_pos (by rfl)]
        go_simp
        exact hK _ _ (Below.refl _ _) rfl
    · intro ys w' hl' hV
      have e13 : ys 13 = _ := hV 13 (by decide)
      clear hV
      simp only [putL, Act.put, List.setIfInBounds_toArray, List.set_cons_zero, List.set_cons_succ, Nat.zero_add, Nat.reduceAdd, e13]
      clear e13
      replace HT := Lib.hid (HT.out.grow hl')
      clear hl' hwo hne
      rename World => wa
      go_wp2_with fail
      refine (text_Parse s HSZ.out _ HT.out.vs).mono ?_
      rintro e wp ⟨vp, rfl, hrp, hbp⟩
      obtain ⟨xd, xe, hxp⟩ : ∃ a b, parseP s.data.toList = (a, b) := ⟨_, _, rfl⟩
      rw [hxp] at hrp ⊢
      obtain ⟨up, rfl, hup⟩ := hrp
      replace hup := okB.lt hup
      obtain ⟨Ap, cp, rfl, _, _⟩ := hup.shape
      have hZ := boxAt_new wp 24 [.int .i64 xd.kind, .int .i64 xd.n, .int .i64 xd.m, .slice Ap xd.data.length cp]
      have hal := below_alloc wp (.cells #[.int .i64 xd.kind, .int .i64 xd.n, .int .i64 xd.m, .slice Ap xd.data.length cp] 24)
      have huq := okB.grow hup hal
      have htq := (HT.out.grow hbp).grow hal
      obtain ⟨wq, hwq⟩ : ∃ x, wp.alloc (.cells #[.int .i64 xd.kind, .int .i64 xd.n, .int .i64 xd.m, .slice Ap xd.data.length cp] 24) = x := ⟨_, rfl⟩
      change BoxAt (wp.alloc (.cells #[.int .i64 xd.kind, .int .i64 xd.n, .int .i64 xd.m, .slice Ap xd.data.length cp] 24)) _ _ _ at hZ
      rw [hwq] at hZ huq htq
      obtain ⟨Bp, hBp⟩ : ∃ b, wp.heap.size = b := ⟨_, rfl⟩
      rw [hBp] at hZ
      replace HT := Lib.hid htq
      have HU := Lib.hid huq
      have HZ := Lib.hid hZ
      obtain ⟨y0, y1, y2, y3⟩ := hZ.four
      clear hZ hal hup huq htq hbp
      by_cases hxe : xe = 0
      · subst hxe
        have HPP := Lib.hid (print_parse hxp)
        clear hxp
        go_wp2_with fail
        clear hwq y0 y1 y2 y3
        refine (text_Print xd _ _ _ ⟨_, rfl, HU.out⟩ HPP.out.2 HT.out.vs).mono ?_
        rintro e wr ⟨rfl, hb⟩
        have hps : strB (printP xd) = s := by rw [HPP.out.1]; rfl
        rw [hps]
        replace HT := Lib.hid (HT.out.grow hb)
        replace HU := Lib.hid (okB.grow HU.out hb)
        replace HZ := Lib.hid (HZ.out.grow hb)
        obtain ⟨y0, y1, y2, y3⟩ := HZ.out.four
        clear hb hps
        go_wp2_with fail
        clear y0 y1 y2 y3
        refine (ref_Wrong xd _ _ _ ⟨_, rfl, HU.out⟩).mono ?_
        rintro e wt ⟨rfl, hb⟩
        rw [HPP.out.2]
        replace HT := Lib.hid (HT.out.grow hb)
        clear hb
        go_wp2_with fail
        go_ret
        exact ⟨rfl, HT.out.be⟩
      · have hne : (xe != 0) = true := by simpa using hxe
        clear hxe hxp
        go_wp2_with fail
        go_ret
        exact ⟨rfl, HT.out.be⟩
  have HRO := Lib.hid hro
  obtain ⟨po, hpo⟩ : ∃ x, strB (printP o) = x := ⟨_, rfl⟩
  have HPO := Lib.hid hpo
  have hcmp : (pd.toList == po.toList) = sameD d o := by rw [← HPD.out, ← hpo, strB_toList, strB_toList]; exact print_inj HR.out hro
  generalize hsm : sameD d o = sm at *
  have HCM := Lib.hid hcmp
  clear hpo hro hcmp
  refine region_list [Cv (.agg #[.int .i64 o.kind, .int .i64 o.n, .int .i64 o.m, .slice Ao o.data.length co]), Cv (.int .i64 0), Cv (.bool true), Cv (.bool true), Cv (.agg #[.int .i64 d.kind, .int .i64 d.n, .int .i64 d.m, .slice Ad d.data.length cd]), Cv (.string pd), Cv (.agg #[.int .i64 o.kind, .int .i64 o.n, .int .i64 o.m, .slice Ao o.data.length co]), Cv (.string po), Cv (.bool sm), Cv (.agg #[.int .i64 d.kind, .int .i64 d.n, .int .i64 d.m, .slice Ad d.data.length cd]), Cv (.agg #[.int .i64 o.kind, .int .i64 o.n, .int .i64 o.m, .slice Ao o.data.length co]), Cv (.bool sm), Cv (.bool false), Cv (.bool false)] (by kernel_rfl) (by kernel_rfl) (by kernel_rfl) ?_ ?_ ?_
  · repeat (first | exact trivial | refine ⟨mC _, ?_⟩ | refine ⟨mR okB _, ?_⟩ | refine ⟨mT, ?_⟩ | refine ⟨mR okBB _, ?_⟩ | refine ⟨mR okBBB _, ?_⟩ | refine ⟨mR (okL okI) _, ?_⟩ | refine ⟨mKt _, ?_⟩ | refine ⟨mRa _ _, ?_⟩)
  · simp only [StepsL]
    refine ⟨?_, ?_, ?_, ?_, ?_, ?_, ?_, ?_, ?_, ?_, ?_, ?_, ?_, ?_, trivial⟩
    · intro ys wx hw hd K hK
      simp only [putL, Act.put, List.setIfInBounds_toArray, List.set_cons_zero, List.set_cons_succ, Nat.zero_add, Nat.reduceAdd] at hK ⊢
      rw [if_pos (by rfl)]
      obtain ⟨kb0, kb1, kb2, kb3⟩ := (BoxAt.four (HT.out.bo.grow hw))
      go_simp
      exact hK _ _ (Below.refl _ _) rfl
    · intro ys wx hw hd K hK
      have e0 : ys 0 = _ := hd 0 (by decide)
      simp only [putL, Act.put, List.setIfInBounds_toArray, List.set_cons_zero, List.set_cons_succ, Nat.zero_add, Nat.reduceAdd, e0] at hK ⊢
      rw [if_pos (by rfl)]
      go_simp
      refine (ref_Wrong o _ _ _ ⟨_, rfl, (HT.out.grow hw).ro⟩).mono ?_
      rintro e w' ⟨rfl, hb⟩
      exact hK _ _ hb (by rw [HRO.out]; rfl)
    · intro ys wx hw hd K hK
      have e1 : ys 1 = _ := hd 1 (by decide)
      simp only [putL, Act.put, List.setIfInBounds_toArray, List.set_cons_zero, List.set_cons_succ, Nat.zero_add, Nat.reduceAdd, e1] at hK ⊢
      rw [if_pos (by rfl)]
      go_simp
      exact hK _ _ (Below.refl _ _) rfl
    · intro ys wx hw hd K hK
      have e2 : ys 2 = _ := hd 2 (by decide)
      simp only [putL, Act.put, List.setIfInBounds_toArray, List.set_cons_zero, List.set_cons_succ, Nat.zero_add, Nat.reduceAdd, e2] at hK ⊢
      rw [if_pos (by rfl)]
      go_simp
      exact hK _ _ (Below.refl _ _) rfl
    · intro ys wx hw hd K hK
      have e3 : ys 3 = _ := hd 3 (by decide)
      simp only [putL, Act.put, List.setIfInBounds_toArray, List.set_cons_zero, List.set_cons_succ, Nat.zero_add, Nat.reduceAdd, e3] at hK ⊢
      rw [if_pos (by rfl)]
      obtain ⟨kb0, kb1, kb2, kb3⟩ := (BoxAt.four (HT.out.bd.grow hw))
      go_simp
      exact hK _ _ (Below.refl _ _) rfl
    · intro ys wx hw hd K hK
      have e3 : ys 3 = _ := hd 3 (by decide)
      have e4 : ys 4 = _ := hd 4 (by decide)
      simp only [putL, Act.put, List.setIfInBounds_toArray, List.set_cons_zero, List.set_cons_succ, Nat.zero_add, Nat.reduceAdd, e3, e4] at hK ⊢
      rw [if_pos (by rfl)]
      go_simp
      refine (text_Print d _ _ _ ⟨_, rfl, (HT.out.grow hw).rd⟩ HR.out (HT.out.grow hw).vs).mono ?_
      rintro e w' ⟨rfl, hb⟩
      exact hK _ _ hb (by rw [HPD.out]; rfl)
    · intro ys wx hw hd K hK
      have e3 : ys 3 = _ := hd 3 (by decide)
      simp only [putL, Act.put, List.setIfInBounds_toArray, List.set_cons_zero, List.set_cons_succ, Nat.zero_add, Nat.reduceAdd, e3] at hK ⊢
      rw [if_pos (by rfl)]
      obtain ⟨kb0, kb1, kb2, kb3⟩ := (BoxAt.four (HT.out.bo.grow hw))
      go_simp
      exact hK _ _ (Below.refl _ _) rfl
    · intro ys wx hw hd K hK
      have e3 : ys 3 = _ := hd 3 (by decide)
      have e6 : ys 6 = _ := hd 6 (by decide)
      simp only [putL, Act.put, List.setIfInBounds_toArray, List.set_cons_zero, List.set_cons_succ, Nat.zero_add, Nat.reduceAdd, e3, e6] at hK ⊢
      rw [if_pos (by rfl)]
      go_simp
      refine (text_Print o _ _ _ ⟨_, rfl, (HT.out.grow hw).ro⟩ HRO.out (HT.out.grow hw).vs).mono ?_
      rintro e w' ⟨rfl, hb⟩
      exact hK _ _ hb (by rw [HPO.out]; rfl)
    · intro ys wx hw hd K hK
      have e3 : ys 3 = _ := hd 3 (by decide)
      have e5 : ys 5 = _ := hd 5 (by decide)
      have e7 : ys 7 = _ := hd 7 (by decide)
      simp only [putL, Act.put, List.setIfInBounds_toArray, List.set_cons_zero, List.set_cons_succ, Nat.zero_add, Nat.reduceAdd, e3, e5, e7] at hK ⊢
      rw [if_pos (by rfl)]
      have kx := HCM.out
      go_simp
      exact hK _ _ (Below.refl _ _) rfl
    · intro ys wx hw hd K hK
      have e3 : ys 3 = _ := hd 3 (by decide)
      simp only [putL, Act.put, List.setIfInBounds_toArray, List.set_cons_zero, List.set_cons_succ, Nat.zero_add, Nat.reduceAdd, e3] at hK ⊢
      rw [if_pos (by rfl)]
      obtain ⟨kb0, kb1, kb2, kb3⟩ := (BoxAt.four (HT.out.bd.grow hw))
      go_simp
      exact hK _ _ (Below.refl _ _) rfl
    · intro ys wx hw hd K hK
      have e3 : ys 3 = _ := hd 3 (by decide)
      simp only [putL, Act.put, List.setIfInBounds_toArray, List.set_cons_zero, List.set_cons_succ, Nat.zero_add, Nat.reduceAdd, e3] at hK ⊢
      rw [if_pos (by rfl)]
      obtain ⟨kb0, kb1, kb2, kb3⟩ := (BoxAt.four (HT.out.bo.grow hw))
      go_simp
      exact hK _ _ (Below.refl _ _) rfl
    · intro ys wx hw hd K hK
      have e3 : ys 3 = _ := hd 3 (by decide)
      have e9 : ys 9 = _ := hd 9 (by decide)
      have e10 : ys 10 = _ := hd 10 (by decide)
      simp only [putL, Act.put, List.setIfInBounds_toArray, List.set_cons_zero, List.set_cons_succ, Nat.zero_add, Nat.reduceAdd, e3, e9, e10] at hK ⊢
      rw [if_pos (by rfl)]
      go_simp
      refine (ref_SameDeed d o _ _ (fun _ => True) _ ⟨_, rfl, okB.mono (HT.out.grow hw).rd fun _ _ => trivial⟩ ⟨_, rfl, okB.mono (HT.out.grow hw).ro fun _ _ => trivial⟩).mono ?_
      rintro e w' ⟨rfl, hb⟩
      exact hK _ _ hb (by rw [hsm]; rfl)
    · intro ys wx hw hd K hK
      have e3 : ys 3 = _ := hd 3 (by decide)
      have e8 : ys 8 = _ := hd 8 (by decide)
      have e11 : ys 11 = _ := hd 11 (by decide)
      simp only [putL, Act.put, List.setIfInBounds_toArray, List.set_cons_zero, List.set_cons_succ, Nat.zero_add, Nat.reduceAdd, e3, e8, e11] at hK ⊢
      rw [if_pos (by rfl)]
      go_simp
      exact hK _ _ (Below.refl _ _) rfl
    · intro ys wx hw hd K hK
      have e3 : ys 3 = _ := hd 3 (by decide)
      have e12 : ys 12 = _ := hd 12 (by decide)
      simp only [putL, Act.put, List.setIfInBounds_toArray, List.set_cons_zero, List.set_cons_succ, Nat.zero_add, Nat.reduceAdd, e3, e12] at hK ⊢
      rw [if_pos (by rfl)]
      go_simp
      exact hK _ _ (Below.refl _ _) rfl
  · intro ys w' hl' hV
    have e13 : ys 13 = _ := hV 13 (by decide)
    clear hV
    simp only [putL, Act.put, List.setIfInBounds_toArray, List.set_cons_zero, List.set_cons_succ, Nat.zero_add, Nat.reduceAdd, e13]
    clear e13
    replace HT := Lib.hid (HT.out.grow hl')
    clear hl' hsm HCM
    rename World => wa
    go_wp2_with fail
    refine (text_Parse s HSZ.out _ HT.out.vs).mono ?_
    rintro e wp ⟨vp, rfl, hrp, hbp⟩
    obtain ⟨xd, xe, hxp⟩ : ∃ a b, parseP s.data.toList = (a, b) := ⟨_, _, rfl⟩
    rw [hxp] at hrp ⊢
    obtain ⟨up, rfl, hup⟩ := hrp
    replace hup := okB.lt hup
    obtain ⟨Ap, cp, rfl, _, _⟩ := hup.shape
    have hZ := boxAt_new wp 24 [.int .i64 xd.kind, .int .i64 xd.n, .int .i64 xd.m, .slice Ap xd.data.length cp]
    have hal := below_alloc wp (.cells #[.int .i64 xd.kind, .int .i64 xd.n, .int .i64 xd.m, .slice Ap xd.data.length cp] 24)
    have huq := okB.grow hup hal
    have htq := (HT.out.grow hbp).grow hal
    obtain ⟨wq, hwq⟩ : ∃ x, wp.alloc (.cells #[.int .i64 xd.kind, .int .i64 xd.n, .int .i64 xd.m, .slice Ap xd.data.length cp] 24) = x := ⟨_, rfl⟩
    change BoxAt (wp.alloc (.cells #[.int .i64 xd.kind, .int .i64 xd.n, .int .i64 xd.m, .slice Ap xd.data.length cp] 24)) _ _ _ at hZ
    rw [hwq] at hZ huq htq
    obtain ⟨Bp, hBp⟩ : ∃ b, wp.heap.size = b := ⟨_, rfl⟩
    rw [hBp] at hZ
    replace HT := Lib.hid htq
    have HU := Lib.hid huq
    have HZ := Lib.hid hZ
    obtain ⟨y0, y1, y2, y3⟩ := hZ.four
    clear hZ hal hup huq htq hbp
    by_cases hxe : xe = 0
    · subst hxe
      have HPP := Lib.hid (print_parse hxp)
      clear hxp
      go_wp2_with fail
      clear hwq y0 y1 y2 y3
      refine (text_Print xd _ _ _ ⟨_, rfl, HU.out⟩ HPP.out.2 HT.out.vs).mono ?_
      rintro e wr ⟨rfl, hb⟩
      have hps : strB (printP xd) = s := by rw [HPP.out.1]; rfl
      rw [hps]
      replace HT := Lib.hid (HT.out.grow hb)
      replace HU := Lib.hid (okB.grow HU.out hb)
      replace HZ := Lib.hid (HZ.out.grow hb)
      obtain ⟨y0, y1, y2, y3⟩ := HZ.out.four
      clear hb hps
      go_wp2_with fail
      clear y0 y1 y2 y3
      refine (ref_Wrong xd _ _ _ ⟨_, rfl, HU.out⟩).mono ?_
      rintro e wt ⟨rfl, hb⟩
      rw [HPP.out.2]
      replace HT := Lib.hid (HT.out.grow hb)
      clear hb
      go_wp2_with fail
      go_ret
      exact ⟨rfl, HT.out.be⟩
    · have hne : (xe != 0) = true := by simpa using hxe
      clear hxe hxp
      go_wp2_with fail
      go_ret
      exact ⟨rfl, HT.out.be⟩
namespace textTurnsDone
open Go.ChangeShapes Go.WideShapes Go.ChangeAt Go.RowKit M
open Go.ChangeMaps (open_string shut_string)
set_option linter.unusedVariables false
set_option maxRecDepth 100000 in
theorem contract (H : Type) (enc : TypeId × Value → H) (W : World) (base : Nat) (args : Array Value) (ds gs : List (DataW H)) (before : List MemPlace)
    (hval0 : ∀ (j : Nat) t v, Tryd.f4.params[j]? = some t → args[j]? = some v → Value.okWide Tryd.prog W .any base t v)
    (hW : DataW.Whole enc Tryd.prog Tryd.f4.params.toList Rows.textTurnsSpec.vars false W args.toList ds gs before) (hL : laidMetH Tryd.prog Rows.textTellsRow.laid W) (hs : W.ShapedOpen Tryd.prog) (hsm : Rows.uptoSmall H (ds ++ gs) = true) :
    Calls Tryd.prog 4 args W fun e W' => ∃ v, e = .returned v ∧ Rows.textTurnsSpec.post enc Tryd.prog Tryd.f4 false true false false W args v W' := by
  have hval : ∀ (j : Nat) t v, Tryd.f4.params[j]? = some t → args[j]? = some v → Value.okWide Tryd.prog W .any base t v := hval0
  have hW' := hW
  obtain ⟨p, q, hA0, hV, rfl, hfz, hnd⟩ := hW
  have hA : DataW.TrodAll enc Tryd.prog W 0 (fun _ => true) true Tryd.f4.params.toList args.toList ds p := hA0
  rw [Tryd.params4] at hA hval
  obtain ⟨v0, vs0, d0, ds0, p0, q0, hargs, rfl, rfl, h0, r0⟩ := trodAll_cons hA
  obtain ⟨v1, vs1, d1, ds1, p1, q1, rfl, rfl, rfl, h1, r1⟩ := trodAll_cons r0
  obtain ⟨v2, vs2, d2, ds2, p2, q2, rfl, rfl, rfl, h2, r2⟩ := trodAll_cons r1
  obtain ⟨rfl, rfl, rfl⟩ := trodAll_nil r2
  obtain rfl : args = #[v0, v1, v2] := by cases args; simp_all
  obtain ⟨rfl, rfl⟩ := trodVars_none hV
  obtain ⟨a0, rfl, rfl, rfl, w0⟩ := open_string Tryd.underlying9 (hval 0 9 v0 rfl rfl) h0
  obtain ⟨b1, w1⟩ := open_deed (hval 1 24 v1 rfl rfl) h1
  have k1 := h1
  have lt1 : ∀ x ∈ p1, x.block < W.heap.size := by obtain ⟨m, hm⟩ := k1; exact DataW.trod_lt m _ _ _ hm
  obtain ⟨b2, w2⟩ := open_deed (hval 2 24 v2 rfl rfl) h2
  have k2 := h2
  have lt2 : ∀ x ∈ p2, x.block < W.heap.size := by obtain ⟨m, hm⟩ := k2; exact DataW.trod_lt m _ _ _ hm
  have z0 : a0.size ≤ 1048576 := by
    have hb := of_decide_eq_true hsm
    simp only [List.append_nil, Rows.uptoBulkAll, Rows.uptoBulk] at hb
    have hz : a0.data.toList.length = a0.size := rfl
    omega
  clear hA0 hval0
  refine (textTurns_walk a0 b1 _ b2 _ W (vars_of hL hs) z0 w1 w2).mono fun e W' ⟨he, bel⟩ => ?_
  subst he
  exact ⟨_, rfl, _, _, _, [], _, [], hW', trodAll_mk1 (shut_bool Tryd.underlying4 _), (trodAll_cons_mk (shut_string Tryd.underlying9 w0) (trodAll_cons_mk (Below.trod laidOut (by kernel_rfl) (of_decide_eq_true (by kernel_rfl)) k1 bel lt1) (trodAll_cons_mk (Below.trod laidOut (by kernel_rfl) (of_decide_eq_true (by kernel_rfl)) k2 bel lt2) trodAll_mk0))), rfl, bel.frame _, fun h => by cases h⟩
set_option maxRecDepth 100000 in
theorem reads (os : Os) {H : Type} (enc : TypeId × Value → H) : ∃ places, DataW.whole enc Tryd.prog ((laidWorld os).forCall (fun _ _ => 0) ⟨#[], #[.string ByteArray.empty, .agg #[.int .i64 0, .int .i64 0, .int .i64 0, .slice none 0 0], .agg #[.int .i64 0, .int .i64 0, .int .i64 0, .slice none 0 0]], []⟩).memory Tryd.f4.params.toList Rows.textTurnsSpec.vars false (#[.string ByteArray.empty, .agg #[.int .i64 0, .int .i64 0, .int .i64 0, .slice none 0 0], .agg #[.int .i64 0, .int .i64 0, .int .i64 0, .slice none 0 0]] : Array Value).toList 8 = some ([.lit (.string []), .agg [.lit (.int .i64 0), .lit (.int .i64 0), .lit (.int .i64 0), .nil], .agg [.lit (.int .i64 0), .lit (.int .i64 0), .lit (.int .i64 0), .nil]], [], places) :=
  ⟨[], by kernel_rfl⟩
set_option maxRecDepth 100000 in
theorem lifted (os : Os) (started : os.Started) (H : Type) (enc : TypeId × Value → H) (F : Stop.Interp) :
    ReturnsInHanded {} Tryd.checked os 4 .any ((Rows.OpenSpec.upto Rows.textTurnsSpec).preRow enc Tryd.prog Tryd.f4 Rows.textTurnsUptoRow.domain false Rows.textTurnsUptoRow.laid) (((Rows.OpenSpec.upto Rows.textTurnsSpec).at F).post enc Tryd.prog Tryd.f4 false true false false) := by
  obtain ⟨places, hx⟩ := reads os enc
  refine returnsInHanded_of_row (C := Tryd.checked) (s := Rows.OpenSpec.upto Rows.textTurnsSpec) own started (by kernel_rfl) Tryd.func4
    (witness_row_atRef (enc := enc) (C := Tryd.checked) false (laidWorld os) #[.string ByteArray.empty, .agg #[.int .i64 0, .int .i64 0, .int .i64 0, .slice none 0 0], .agg #[.int .i64 0, .int .i64 0, .int .i64 0, .slice none 0 0]] rfl (by kernel_rfl) (by kernel_rfl) (by kernel_rfl)
      (OpenSpec.preRow_of_cond 8 hx (by kernel_rfl) (fun k hk => by cases hk; kernel_rfl) (by kernel_rfl) (laid_metH os _))) ?_
  intro W base args ds gs before hval hW _ hcond _ hL hs _
  exact contract H enc W base args ds gs before hval hW hL hs (hcond _ rfl)
theorem said : Rows.textTurnsUptoRow.holds Tryd.pinned (Rows.OpenSpec.upto Rows.textTurnsSpec) :=
  OpenClaim.holds_of_cond 4 Tryd.f4 rfl rfl rfl rfl rfl rfl rfl ⟨rfl, rfl, rfl, rfl, rfl⟩ rfl rfl rfl rfl rfl (by kernel_rfl) Tryd.func4 (by kernel_rfl)
    (of_decide_eq_true (by kernel_rfl)) (by unfold Func.isWrapper; first | (rw [if_pos (by decide +kernel)]; kernel_rfl) | (rw [if_neg (by decide +kernel)]; exact ⟨rfl, rfl⟩))
    (fun os started H enc _ F => by rw [OpenClaim.pre_eq_preRow]; exact lifted os started H enc F)
theorem plain (f : FuncId) (fn : Func) (hf : Tryd.pinned.checked.prog.funcNamed Rows.textTurnsUptoRow.func = some f) (hfn : Tryd.pinned.checked.prog.funcs[f]? = some fn) :
    true = Tryd.pinned.checked.prog.looks [] ∧ ∀ (j : Nat) t, fn.params[j]? = some t → Tryd.pinned.checked.prog.wantsStandIn t = false := by
  obtain rfl : f = 4 := Option.some.inj ((show Tryd.prog.funcNamed Rows.textTurnsUptoRow.func = some 4 by kernel_rfl).symm.trans hf) |>.symm
  obtain rfl : fn = Tryd.f4 := (Option.some.inj (Tryd.func4.symm.trans hfn)).symm
  refine ⟨by kernel_rfl, fun j t ht => ?_⟩
  rw [Tryd.params4] at ht
  have hm : t ∈ ([9, 24, 24] : List TypeId) := by simpa using Array.mem_of_getElem? ht
  have hall : (([9, 24, 24] : List TypeId).all fun u => !Tryd.prog.wantsStandIn u) = true := by kernel_rfl
  exact (show Tryd.prog.wantsStandIn t = false by simpa using List.all_eq_true.1 hall t hm)
/-- The card. -/
theorem proved : Rows.TextTurnsUptoCardSaid :=
  Claim7.holds_tied_plain_at .later [] _ _ _ _ said (fun _ h => by cases h) (by kernel_rfl) (fun _ h => by cases h) textTurnsUpto_row_tie rfl ⟨rfl, rfl⟩ (by kernel_rfl) rfl plain (by kernel_rfl)
end textTurnsDone
end Go.Proofs.YtdcmbdghnkgghaaDoor

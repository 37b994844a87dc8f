/- Chapter 6: what the reference's Print computes: the walk. -/
import Derived.Test.YtdcmbdghnkgghaaDoorT10
namespace Go.Proofs.YtdcmbdghnkgghaaDoor
set_option linter.unusedVariables false
open Go Go.RowKit M
theorem hexC_word (a : Nat) : ∃ xa : ByteArray, ⟨#[hexC a]⟩ = xa ∧ xa.size = 1 := ⟨_, rfl, rfl⟩
theorem u8_all : ∀ n : Fin 256, IntKind.u8.wrap (n.val : Int) = n.val := by decide +kernel
theorem u8_in {a : Nat} (h : a < 256) : IntKind.u8.wrap (a : Int) = a := u8_all ⟨a, h⟩
theorem conv_hex {a : Nat} (h : a < 16) (w : World) : (convert 5 9 (.int .u8 (((hexC a).toNat : Nat) : Int))).run Tryd.prog w = .ok (.string ⟨#[hexC a]⟩) w := by
  obtain rfl | rfl | rfl | rfl | rfl | rfl | rfl | rfl | rfl | rfl | rfl | rfl | rfl | rfl | rfl | rfl : a = 0 ∨ a = 1 ∨ a = 2 ∨ a = 3 ∨ a = 4 ∨ a = 5 ∨ a = 6 ∨ a = 7 ∨ a = 8 ∨ a = 9 ∨ a = 10 ∨ a = 11 ∨ a = 12 ∨ a = 13 ∨ a = 14 ∨ a = 15 := by omega
  all_goals kernel_rfl
set_option maxRecDepth 100000 in
set_option maxHeartbeats 3200000 in
theorem ref_Print (d : Deed) (v : Value) (F : Fp) (w : World) (h : RdD w F v d) (hr : wrongI d = 0) (hv : Vars w) :
    Calls Tryd.prog 14 #[v] w fun e w' => e = .returned (.string (strB (printP d))) ∧ Below w.heap.size w w' := by
  obtain ⟨dv, rfl, hd⟩ := h
  replace hd := okB.lt hd
  obtain ⟨A, c, rfl, _, _⟩ := hd.shape
  obtain ⟨hn, hq⟩ := wrong_ok hr
  obtain ⟨dk, dn, dm, l⟩ := d
  simp only at hn hq hd
  obtain ⟨n, rfl⟩ : ∃ n : Nat, dn = n := ⟨dn.toNat, by have := hn.1; omega⟩
  have hn9 : n < 9 := by have := hn.2; omega
  obtain ⟨L, hL⟩ : ∃ L, l.length = L := ⟨_, rfl⟩
  simp only [hL] at hd hq ⊢
  have HL := Lib.hid hL
  have hA := boxAt_new w 24 [.int .i64 dk, .int .i64 (n : Int), .int .i64 dm, .slice A L c]
  have hb := below_alloc w (.cells #[.int .i64 dk, .int .i64 (n : Int), .int .i64 dm, .slice A L c] 24)
  change BoxAt (w.alloc (.cells #[.int .i64 dk, .int .i64 (n : Int), .int .i64 dm, .slice A L c] 24)) _ _ _ at hA
  have hsz := alloc_size w (.cells #[.int .i64 dk, .int .i64 (n : Int), .int .i64 dm, .slice A L c] 24)
  obtain ⟨w1, hW⟩ : ∃ x, w.alloc (.cells #[.int .i64 dk, .int .i64 (n : Int), .int .i64 dm, .slice A L c] 24) = x := ⟨_, rfl⟩
  rw [hW] at hA hb hsz
  have HA := Lib.hid hA
  have HB := Lib.hid hb
  have HD := Lib.hid (okB.grow hd hb)
  have HV := Lib.hid (hv.grow hb)
  obtain ⟨p0, p1, p2, p3⟩ := hA.four
  obtain ⟨x, hx, hx1⟩ := itoa_one hn9
  have HX := Lib.hid hx
  clear hd hA hb hv hn hr hL hx
  rcases hq with ⟨hk, hm, hl4⟩ | ⟨hk, hm, _, hl0⟩
  · subst hk
    subst hm
    subst hl4
    have HP := Lib.hid (show printP ⟨1, n, 0, l⟩ = wordW ++ 32 :: (Lib.itoa n ++ 32 :: hexOut l) from rfl)
    go_enter Tryd.func14, Tryd.ntmps14
    go_wp2_with fail
    refine (Tryd.strconv_Itoa (n : Int) (by omega) (by omega) _ HV.out.tab).mono ?_
    rintro e w2 ⟨rfl, k, os, hw2⟩
    have hb2 : Below w1.heap.size w1 w2 := by rw [hw2]; exact Lib.below_grow _ w1 (Nat.le_refl _) k os
    clear hw2
    have hT := join_write (Lib.itoa n)
    rw [HX.out] at hT
    change Hid (⟨(Lib.itoa n).toArray⟩ = x) at HX
    rw [HX.out]
    obtain ⟨T, hTe⟩ : ∃ T, wordW ++ 32 :: (Lib.itoa n ++ [32]) = T := ⟨_, rfl⟩
    have hTl : T.length = 8 := by rw [← hTe, List.length_append, List.length_cons, List.length_append, itoa_short ⟨n, hn9⟩]; decide
    rw [hTe] at hT
    have HT := Lib.hid hT
    have HTT := Lib.hid hTe
    have HTL := Lib.hid hTl
    have HA3 := Lib.hid (HA.out.grow hb2)
    have HB3 := Lib.hid (HB.out.trans (hb2.mono (by omega)))
    have HD3 := Lib.hid (okB.grow HD.out hb2)
    obtain ⟨q0, q1, q2, q3⟩ := HA3.out.four
    obtain ⟨B, hB⟩ : ∃ B, w2.heap.size = B := ⟨_, rfl⟩
    have hB1 : w1.heap.size ≤ B := by rw [← hB]; exact hb2.size
    clear hb2 hT hTe hTl
    go_wp2_with fail
    clear q0 q1 q2 q3
    obtain ⟨bd, od, cd, hA4, hFb, hbl, hc4, hcm⟩ := (HD3.out).form (by rw [HL.out]; decide)
    rw [HL.out] at hA4 hc4
    injection hA4 with hA5 _ hc5
    subst hA5
    subst hc5
    go_loopw [3, 26] (fun s i wr => ∃ (j : Nat) (S : ByteArray), s = .string S ∧ S = strB (T ++ hexOut (l.take j)) ∧ i = .int .i64 (j : Int) ∧ j ≤ 4 ∧ Below B w2 wr) (fun _ i _ => 5 - (intOf i).toNat)
    case atStart => exact ⟨0, _, rfl, by rw [HT.out]; simp [hexOut], rfl, Nat.zero_le _, Below.refl _ _⟩
    case round =>
      obtain ⟨j, S, rfl, hS, rfl, hj, hBr⟩ := hrel
      have HS := Lib.hid hS
      have hS1 : S.size = 8 + 2 * j := by rw [hS, strB_size, List.length_append, HTL.out, hexOut_len, List.length_take, HL.out]; omega
      have HR := Lib.hid hBr
      have hszr : w2.heap.size ≤ wr.heap.size := hBr.size
      by_cases hlt : j < 4
      · have hjl : j < l.length := by rw [HL.out]; exact hlt
        obtain ⟨cc, hcc⟩ : ∃ cc, l[j] = cc := ⟨_, rfl⟩
        obtain ⟨uc, hcell, huc⟩ := RdL_q (okB.below HD3.out hBr (by intro k hk _; have := hk.2; omega)) (k := j) (x := cc) (by rw [List.getElem?_eq_getElem hjl, hcc])
        obtain rfl : uc = B8 cc := huc
        rw [show B8 cc = .int .u8 ((cc.toNat : Nat) : Int) from rfl] at hcell
        have HCC := Lib.hid hcc
        have dl : decide ((j : Int) < 4) = true := by simp; omega
        clear hS hBr hcc
        obtain ⟨a, ha⟩ : ∃ a, cc.toNat / 16 = a := ⟨_, rfl⟩
        obtain ⟨b, hbb⟩ : ∃ b, cc.toNat % 16 = b := ⟨_, rfl⟩
        have hcl := cc.toNat_lt
        have ha16 : a < 16 := by omega
        have hb16 : b < 16 := by omega
        have hdv : (cc.toNat : Int) / 16 = (a : Int) := by omega
        have hbn : (cc.toNat : Int) % 16 = (b : Int) := by omega
        have hdv2 : (cc.toNat : Int).tdiv 16 = (a : Int) := by rw [Int.tdiv_eq_ediv_of_nonneg (by omega)]; exact hdv
        have hbn2 : (cc.toNat : Int).tmod 16 = (b : Int) := by rw [Int.tmod_eq_emod_of_nonneg (by omega)]; exact hbn
        have HDG := Lib.hid (And.intro ha hbb)
        clear ha hbb hcl
        obtain ⟨xa, hxa, hxa1⟩ := hexC_word a
        obtain ⟨xb, hxb, hxb1⟩ := hexC_word b
        have HXA := Lib.hid (And.intro hxa hxb)
        have hca : ∀ wx, (convert 5 9 (.int .u8 (((hexC a).toNat : Nat) : Int))).run Tryd.prog wx = .ok (.string xa) wx := fun wx => by rw [← hxa]; exact conv_hex ha16 wx
        have hcb : ∀ wx, (convert 5 9 (.int .u8 (((hexC b).toNat : Nat) : Int))).run Tryd.prog wx = .ok (.string xb) wx := fun wx => by rw [← hxb]; exact conv_hex hb16 wx
        clear hxa hxb
        have hw8 : IntKind.u8.wrap (a : Int) = a := u8_in (by omega)
        have hsz1 : ¬ 9223372036854775807 < 8 + 2 * j + 1 := by omega
        have hsz2 : ¬ 9223372036854775807 < 8 + 2 * j + 1 + 1 := by omega
        go_wp2_with fail
        clear hcell
        refine region_three6 (wr.heap.size) [Ck (.string S), Ck (.int .u8 ((cc.toNat : Nat) : Int)), Ck (.int .u8 ((a : Nat) : Int)), Ck (.int .u8 (((hexC a).toNat : Nat) : Int)), Ck (.string xa), Ck (.string (S ++ xa)), Ck (.int .u8 ((cc.toNat : Nat) : Int)), Ck (.int .u8 ((b : Nat) : Int)), Ck (.int .u8 (((hexC b).toNat : Nat) : Int)), Ck (.string xb), Ck (.string (S ++ xa ++ xb)), Ck (.string (S ++ xa ++ xb))] (fun _ _ => True) [] (by kernel_rfl) (by kernel_rfl) (by kernel_rfl) (by kernel_rfl) (by kernel_rfl) ?_ ?_ (fun _ _ _ _ _ => trivial) (trivial) ?_ ?_
        · first | exact Nat.le_refl _ | assumption | omega
        · repeat (first | exact trivial | refine ⟨mCk _, ?_⟩ | refine ⟨mTk, ?_⟩ | refine ⟨mEk _ (by first | exact mC _ | exact mT | exact mR okB _ | exact mR okBB _ | exact mR okBBB _ | exact mRn okB _ _ | exact mRn okBB _ _ | exact mOw _ _ _ _ | exact mRm okB _ _ _ | exact mRa _ _ | exact mRg okROW _ _ | exact mRg okROWS _ _ | exact mRf okDISKS _ _ | exact mRg okCELL _ _ | exact mRg okBB _ _ | exact mRg okB _ _ | exact mRg okIs _ _ | exact mRi _ _ | exact mOx _ _), ?_⟩ | refine ⟨mFk _ (by first | exact mC _ | exact mT | exact mR okB _ | exact mR okBB _ | exact mR okBBB _ | exact mRn okB _ _ | exact mRn okBB _ _ | exact mOw _ _ _ _ | exact mRm okB _ _ _ | exact mRa _ _ | exact mRg okROW _ _ | exact mRg okROWS _ _ | exact mRf okDISKS _ _ | exact mRg okCELL _ _ | exact mRg okBB _ _ | exact mRg okB _ _ | exact mRg okIs _ _ | exact mRi _ _ | exact mOx _ _), ?_⟩ | refine ⟨fun _ => (by first | exact mC _ | exact mT | exact mR okB _ | exact mR okBB _ | exact mR okBBB _ | exact mRn okB _ _ | exact mRn okBB _ _ | exact mOw _ _ _ _ | exact mRm okB _ _ _ | exact mRa _ _ | exact mRg okROW _ _ | exact mRg okROWS _ _ | exact mRf okDISKS _ _ | exact mRg okCELL _ _ | exact mRg okBB _ _ | exact mRg okB _ _ | exact mRg okIs _ _ | exact mRi _ _ | exact mOx _ _), ?_⟩)
        · simp only [StepsL6]
          refine ⟨?_, ?_, ?_, ?_, ?_, ?_, ?_, ?_, ?_, ?_, ?_, ?_, trivial⟩
          · refine @id (StepG6 _ _ _ _ _ _ _ _ _ _ _) ?_
            intro nst ys wx hn hmay hw hS hd hst
            intro K hK
            have e11 : ys 11 = .string S := hst 11 (by kernel_rfl)
            simp only [putL, Act.put, List.setIfInBounds_toArray, List.set_cons_zero, List.set_cons_succ, Nat.zero_add, Nat.reduceAdd, e11] at hK ⊢
            rw [if_pos (by rfl)]
            go_simp
            exact hK _ _ (Below.refl _ _) rfl
          · refine @id (StepG6 _ _ _ _ _ _ _ _ _ _ _) ?_
            intro nst ys wx hn hmay hw hS hd hst
            intro K hK
            simp only [putL, Act.put, List.setIfInBounds_toArray, List.set_cons_zero, List.set_cons_succ, Nat.zero_add, Nat.reduceAdd] at hK ⊢
            rw [if_pos (by rfl)]
            go_simp
            exact hK _ _ (Below.refl _ _) rfl
          · refine @id (StepG6 _ _ _ _ _ _ _ _ _ _ _) ?_
            intro nst ys wx hn hmay hw hS hd hst
            intro K hK
            have e1 : ys 1 = _ := hd 1 (by decide)
            simp only [putL, Act.put, List.setIfInBounds_toArray, List.set_cons_zero, List.set_cons_succ, Nat.zero_add, Nat.reduceAdd, e1] at hK ⊢
            rw [if_pos (by rfl)]
            go_simp
            exact hK _ _ (Below.refl _ _) rfl
          · refine @id (StepG6 _ _ _ _ _ _ _ _ _ _ _) ?_
            intro nst ys wx hn hmay hw hS hd hst
            intro K hK
            have e2 : ys 2 = _ := hd 2 (by decide)
            simp only [putL, Act.put, List.setIfInBounds_toArray, List.set_cons_zero, List.set_cons_succ, Nat.zero_add, Nat.reduceAdd, e2] at hK ⊢
            rw [if_pos (by rfl)]
            have q0 : (0 : Int) ≤ a := by omega
            have q1 : (a : Int) < 16 := by omega
            have q2 : (a : Int).toNat = a := by omega
            go_simp
            exact hK _ _ (Below.refl _ _) (hexC_val ha16)
          · refine @id (StepG6 _ _ _ _ _ _ _ _ _ _ _) ?_
            intro nst ys wx hn hmay hw hS hd hst
            intro K hK
            have e3 : ys 3 = _ := hd 3 (by decide)
            simp only [putL, Act.put, List.setIfInBounds_toArray, List.set_cons_zero, List.set_cons_succ, Nat.zero_add, Nat.reduceAdd, e3] at hK ⊢
            rw [if_pos (by rfl)]
            go_simp
            exact hK _ _ (Below.refl _ _) rfl
          · refine @id (StepG6 _ _ _ _ _ _ _ _ _ _ _) ?_
            intro nst ys wx hn hmay hw hS hd hst
            intro K hK
            have e0 : ys 0 = _ := hd 0 (by decide)
            have e4 : ys 4 = _ := hd 4 (by decide)
            simp only [putL, Act.put, List.setIfInBounds_toArray, List.set_cons_zero, List.set_cons_succ, Nat.zero_add, Nat.reduceAdd, e0, e4] at hK ⊢
            rw [if_pos (by rfl)]
            go_simp
            exact hK _ _ (Below.refl _ _) rfl
          · refine @id (StepG6 _ _ _ _ _ _ _ _ _ _ _) ?_
            intro nst ys wx hn hmay hw hS hd hst
            intro K hK
            simp only [putL, Act.put, List.setIfInBounds_toArray, List.set_cons_zero, List.set_cons_succ, Nat.zero_add, Nat.reduceAdd] at hK ⊢
            rw [if_pos (by rfl)]
            go_simp
            exact hK _ _ (Below.refl _ _) rfl
          · refine @id (StepG6 _ _ _ _ _ _ _ _ _ _ _) ?_
            intro nst ys wx hn hmay hw hS hd hst
            intro K hK
            have e6 : ys 6 = _ := hd 6 (by decide)
            simp only [putL, Act.put, List.setIfInBounds_toArray, List.set_cons_zero, List.set_cons_succ, Nat.zero_add, Nat.reduceAdd, e6] at hK ⊢
            rw [if_pos (by rfl)]
            go_simp
            exact hK _ _ (Below.refl _ _) rfl
          · refine @id (StepG6 _ _ _ _ _ _ _ _ _ _ _) ?_
            intro nst ys wx hn hmay hw hS hd hst
            intro K hK
            have e7 : ys 7 = _ := hd 7 (by decide)
            simp only [putL, Act.put, List.setIfInBounds_toArray, List.set_cons_zero, List.set_cons_succ, Nat.zero_add, Nat.reduceAdd, e7] at hK ⊢
            rw [if_pos (by rfl)]
            have q0 : (0 : Int) ≤ b := by omega
            have q1 : (b : Int) < 16 := by omega
            have q2 : (b : Int).toNat = b := by omega
            go_simp
            exact hK _ _ (Below.refl _ _) (hexC_val hb16)
          · refine @id (StepG6 _ _ _ _ _ _ _ _ _ _ _) ?_
            intro nst ys wx hn hmay hw hS hd hst
            intro K hK
            have e8 : ys 8 = _ := hd 8 (by decide)
            simp only [putL, Act.put, List.setIfInBounds_toArray, List.set_cons_zero, List.set_cons_succ, Nat.zero_add, Nat.reduceAdd, e8] at hK ⊢
            rw [if_pos (by rfl)]
            go_simp
            exact hK _ _ (Below.refl _ _) rfl
          · refine @id (StepG6 _ _ _ _ _ _ _ _ _ _ _) ?_
            intro nst ys wx hn hmay hw hS hd hst
            intro K hK
            have e5 : ys 5 = _ := hd 5 (by decide)
            have e9 : ys 9 = _ := hd 9 (by decide)
            simp only [putL, Act.put, List.setIfInBounds_toArray, List.set_cons_zero, List.set_cons_succ, Nat.zero_add, Nat.reduceAdd, e5, e9] at hK ⊢
            rw [if_pos (by rfl)]
            go_simp
            exact hK _ _ (Below.refl _ _) rfl
          · refine @id (StepG6 _ _ _ _ _ _ _ _ _ _ _) ?_
            intro nst ys wx hn hmay hw hS hd hst
            intro K hK
            have e10 : ys 10 = _ := hd 10 (by decide)
            simp only [putL, Act.put, List.setIfInBounds_toArray, List.set_cons_zero, List.set_cons_succ, Nat.zero_add, Nat.reduceAdd, e10] at hK ⊢
            rw [if_pos (by rfl)]
            go_simp
            exact hK _ _ (Below.refl _ _) rfl
        · intro ys w' hl' hS' hV
          have e11 : ys 11 = _ := hV 11 (by decide)
          clear hV
          simp only [putL, Act.put, List.setIfInBounds_toArray, List.set_cons_zero, List.set_cons_succ, Nat.zero_add, Nat.reduceAdd, e11]
          clear e11
          have HN := Lib.hid (show S ++ xa ++ xb = strB (T ++ hexOut (l.take (j + 1))) by
            rw [hexOut_next hjl, HCC.out, HDG.out.1, HDG.out.2, HS.out, ← HXA.out.1, ← HXA.out.2, ← List.append_assoc]
            change strB _ ++ strB [hexC a] ++ strB [hexC b] = _
            rw [strB_add, strB_add]
            exact congrArg strB (by simp))
          have HR2 := Lib.hid (HR.out.trans (hl'.mono (by rw [← hB]; exact HR.out.size)))
          clear hl' hS'
          go_wp2
          go_roundw
          case rel => exact ⟨j + 1, _, rfl, HN.out, by go_num, by omega, HR2.out⟩
          case measure => simp [intOf]; omega
      · obtain rfl : j = 4 := by omega
        clear hS hBr hS1
        go_wp2_with fail
        go_ret
        exact ⟨ret_str (by
          rw [HP.out, HS.out, List.take_of_length_le (show l.length ≤ 4 by rw [HL.out]; exact Nat.le_refl _), ← HTT.out]
          exact congrArg strB (by simp)), HB3.out.trans (HR.out.mono (by have := hsz; omega))⟩
  · subst hk
    subst hl0
    obtain ⟨m, rfl⟩ : ∃ m : Nat, dm = m := ⟨dm.toNat, by have := hm.1; omega⟩
    have hm9 : m < 9 := by have := hm.2; omega
    have HP := Lib.hid (show printP ⟨2, n, m, l⟩ = wordS ++ 32 :: (Lib.itoa n ++ 32 :: Lib.itoa m) from rfl)
    obtain ⟨y, hy, hy1⟩ := itoa_one hm9
    have HY := Lib.hid hy
    clear hm hy
    go_enter Tryd.func14, Tryd.ntmps14
    go_wp2_with fail
    refine region_list [Cv (.pointer (some ⟨w.heap.size, 1, none⟩)), Cv (.int .i64 (n : Int)), Cv (.string x), Cv (.string (⟨#[115, 119, 97, 112, 32]⟩ ++ x)), Cv (.string (⟨#[115, 119, 97, 112, 32]⟩ ++ x ++ ⟨#[32]⟩)), Cv (.pointer (some ⟨w.heap.size, 2, none⟩)), Cv (.int .i64 (m : Int)), Cv (.string y), Cv (.string (⟨#[115, 119, 97, 112, 32]⟩ ++ x ++ ⟨#[32]⟩ ++ y)), Cv (.string (⟨#[115, 119, 97, 112, 32]⟩ ++ x ++ ⟨#[32]⟩ ++ y))] (by kernel_rfl) (by kernel_rfl) (by kernel_rfl) ?_ ?_ ?_
    · repeat (first | exact trivial | refine ⟨mC _, ?_⟩ | refine ⟨mR okB _, ?_⟩ | refine ⟨mT, ?_⟩ | refine ⟨mR okBB _, ?_⟩ | refine ⟨mR okBBB _, ?_⟩ | refine ⟨mR (okL okI) _, ?_⟩ | refine ⟨mKt _, ?_⟩ | refine ⟨mRa _ _, ?_⟩)
    · simp only [StepsL]
      refine ⟨?_, ?_, ?_, ?_, ?_, ?_, ?_, ?_, ?_, ?_, trivial⟩
      · intro ys wx hw hd K hK
        simp only [putL, Act.put, List.setIfInBounds_toArray, List.set_cons_zero, List.set_cons_succ, Nat.zero_add, Nat.reduceAdd] at hK ⊢
        rw [if_pos (by rfl)]
        go_simp
        exact hK _ _ (Below.refl _ _) rfl
      · intro ys wx hw hd K hK
        have e0 : ys 0 = _ := hd 0 (by decide)
        simp only [putL, Act.put, List.setIfInBounds_toArray, List.set_cons_zero, List.set_cons_succ, Nat.zero_add, Nat.reduceAdd, e0] at hK ⊢
        rw [if_pos (by rfl)]
        obtain ⟨kb0, kb1, kb2, kb3⟩ := (BoxAt.four (HA.out.grow hw))
        go_simp
        exact hK _ _ (Below.refl _ _) rfl
      · intro ys wx hw hd K hK
        have e1 : ys 1 = _ := hd 1 (by decide)
        simp only [putL, Act.put, List.setIfInBounds_toArray, List.set_cons_zero, List.set_cons_succ, Nat.zero_add, Nat.reduceAdd, e1] at hK ⊢
        rw [if_pos (by rfl)]
        go_simp
        refine (Tryd.strconv_Itoa (n : Int) (by omega) (by omega) wx (HV.out.grow hw).tab).mono ?_
        rintro e w' ⟨rfl, k, os, rfl⟩
        exact hK _ _ (Lib.below_grow _ wx (Nat.le_refl _) k os) (by rw [← HX.out]; rfl)
      · intro ys wx hw hd K hK
        have e2 : ys 2 = _ := hd 2 (by decide)
        simp only [putL, Act.put, List.setIfInBounds_toArray, List.set_cons_zero, List.set_cons_succ, Nat.zero_add, Nat.reduceAdd, e2] at hK ⊢
        rw [if_pos (by rfl)]
        go_simp
        exact hK _ _ (Below.refl _ _) rfl
      · intro ys wx hw hd K hK
        have e3 : ys 3 = _ := hd 3 (by decide)
        simp only [putL, Act.put, List.setIfInBounds_toArray, List.set_cons_zero, List.set_cons_succ, Nat.zero_add, Nat.reduceAdd, e3] at hK ⊢
        rw [if_pos (by rfl)]
        go_simp
        exact hK _ _ (Below.refl _ _) rfl
      · intro ys wx hw hd K hK
        simp only [putL, Act.put, List.setIfInBounds_toArray, List.set_cons_zero, List.set_cons_succ, Nat.zero_add, Nat.reduceAdd] at hK ⊢
        rw [if_pos (by rfl)]
        go_simp
        exact hK _ _ (Below.refl _ _) rfl
      · intro ys wx hw hd K hK
        have e5 : ys 5 = _ := hd 5 (by decide)
        simp only [putL, Act.put, List.setIfInBounds_toArray, List.set_cons_zero, List.set_cons_succ, Nat.zero_add, Nat.reduceAdd, e5] at hK ⊢
        rw [if_pos (by rfl)]
        obtain ⟨kb0, kb1, kb2, kb3⟩ := (BoxAt.four (HA.out.grow hw))
        go_simp
        exact hK _ _ (Below.refl _ _) rfl
      · intro ys wx hw hd K hK
        have e6 : ys 6 = _ := hd 6 (by decide)
        simp only [putL, Act.put, List.setIfInBounds_toArray, List.set_cons_zero, List.set_cons_succ, Nat.zero_add, Nat.reduceAdd, e6] at hK ⊢
        rw [if_pos (by rfl)]
        go_simp
        refine (Tryd.strconv_Itoa (m : Int) (by omega) (by omega) wx (HV.out.grow hw).tab).mono ?_
        rintro e w' ⟨rfl, k, os, rfl⟩
        exact hK _ _ (Lib.below_grow _ wx (Nat.le_refl _) k os) (by rw [← HY.out]; rfl)
      · intro ys wx hw hd K hK
        have e4 : ys 4 = _ := hd 4 (by decide)
        have e7 : ys 7 = _ := hd 7 (by decide)
        simp only [putL, Act.put, List.setIfInBounds_toArray, List.set_cons_zero, List.set_cons_succ, Nat.zero_add, Nat.reduceAdd, e4, e7] at hK ⊢
        rw [if_pos (by rfl)]
        go_simp
        exact hK _ _ (Below.refl _ _) rfl
      · intro ys wx hw hd K hK
        have e8 : ys 8 = _ := hd 8 (by decide)
        simp only [putL, Act.put, List.setIfInBounds_toArray, List.set_cons_zero, List.set_cons_succ, Nat.zero_add, Nat.reduceAdd, e8] at hK ⊢
        rw [if_pos (by rfl)]
        go_simp
        exact hK _ _ (Below.refl _ _) rfl
    · intro ys w' hl' hV
      have e9 : ys 9 = _ := hV 9 (by decide)
      clear hV
      simp only [putL, Act.put, List.setIfInBounds_toArray, List.set_cons_zero, List.set_cons_succ, Nat.zero_add, Nat.reduceAdd, e9]
      clear e9
      go_wp2
      go_ret
      exact ⟨ret_str (by rw [HP.out, ← HX.out, ← HY.out]; exact join_swap _ _), HB.out.trans (hl'.mono HB.out.size)⟩
end Go.Proofs.YtdcmbdghnkgghaaDoor

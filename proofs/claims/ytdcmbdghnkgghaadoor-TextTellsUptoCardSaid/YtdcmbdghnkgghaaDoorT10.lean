/- Chapter 6: what text.Print computes: the walk. -/
import Derived.Test.YtdcmbdghnkgghaaDoorT9
import Derived.Test.YtdcmbdghnkgghaaDoorRegion6
namespace Go.Proofs.YtdcmbdghnkgghaaDoor
set_option linter.unusedVariables false
open Go Go.RowKit M
theorem itoa_short : ∀ n : Fin 9, (Lib.itoa n.val).length = 1 := by decide +kernel
/-- A digit's text, as a word of one byte. -/
theorem itoa_one {n : Nat} (h : n < 9) : ∃ x : ByteArray, strB (Lib.itoa (n : Int)) = x ∧ x.size = 1 := ⟨_, rfl, by rw [strB_size]; exact itoa_short ⟨n, h⟩⟩
theorem ret_str {a b : ByteArray} (h : a = b) : Ending.returned (.string a) = .returned (.string b) := by rw [h]
theorem join_swap (a b : List UInt8) : ⟨#[115, 119, 97, 112, 32]⟩ ++ strB a ++ ⟨#[32]⟩ ++ strB b = strB (wordS ++ 32 :: (a ++ 32 :: b)) := by
  change strB [115, 119, 97, 112, 32] ++ strB a ++ strB [32] ++ strB b = _
  rw [strB_add, strB_add, strB_add]
  exact congrArg strB (by simp [wordS])
theorem join_write (a : List UInt8) : ⟨#[119, 114, 105, 116, 101, 32]⟩ ++ strB a ++ ⟨#[32]⟩ = strB (wordW ++ 32 :: (a ++ [32])) := by
  change strB [119, 114, 105, 116, 101, 32] ++ strB a ++ strB [32] = _
  rw [strB_add, strB_add]
  exact congrArg strB (by simp [wordW])
theorem and_all : ∀ n : Fin 256, bits BinOp.and IntKind.u8 (n.val : Int) 15 = ((n.val % 16 : Nat) : Int) := by decide +kernel
theorem and_low (c : UInt8) : bits BinOp.and IntKind.u8 (c.toNat : Int) 15 = ((c.toNat % 16 : Nat) : Int) := and_all ⟨c.toNat, c.toNat_lt⟩
theorem hexC_get : ∀ n : Fin 16, ((⟨#[48, 49, 50, 51, 52, 53, 54, 55, 56, 57, 97, 98, 99, 100, 101, 102]⟩ : ByteArray)[n.val]'(by have := n.isLt; exact this)) = hexC n.val := by decide +kernel
theorem hexC_val {a : Nat} (h : a < 16) {h' : a < (⟨#[48, 49, 50, 51, 52, 53, 54, 55, 56, 57, 97, 98, 99, 100, 101, 102]⟩ : ByteArray).size} : Value.int .u8 ((((⟨#[48, 49, 50, 51, 52, 53, 54, 55, 56, 57, 97, 98, 99, 100, 101, 102]⟩ : ByteArray)[a]'h').toNat : Nat) : Int) = .int .u8 (((hexC a).toNat : Nat) : Int) := by
  rw [show ((⟨#[48, 49, 50, 51, 52, 53, 54, 55, 56, 57, 97, 98, 99, 100, 101, 102]⟩ : ByteArray)[a]'h') = hexC a from hexC_get ⟨a, h⟩]
theorem wp_append_own {P : Program} {e : TypeId} {bytes : Nat} {w : World} {o : Oper} {a : Act} {Q : Exit → Act → World → Prop} {K : Act → World → Prop} (s x : Operand) (t : TypeId)
    (ho : o.op = .call { callee := .builtin .append, args := #[s, x], argTypes := #[t, t] }) (T : SlTy P t e bytes) (base : Nat) (v xv : Value) (bs ys : List UInt8) (hs : a.eval s = v) (hx : a.eval x = xv) {F : Fp}
    (hown : OwnX w base v bs) (hsrc : RdB w F xv ys) (h0 : 0 < ys.length)
    (hbytes : (bs.length + ys.length) * bytes ≤ 140737488355328) (hbase : base ≤ w.heap.size)
    (h : ∀ v' w', OwnX w' base v' (bs ++ ys) → Below base w w' → K (a.put o.dst v') w') : Oper.wp P o a w K Q := by
  obtain ⟨v', w', hr, h2, h3⟩ := own_append_rd (P := P) (ty := o.type) T hown hsrc h0 hbytes hbase
  unfold Oper.wp execOp
  simp only [ho, resolve, invoke, builtin, Sem.run_bind, Sem.run_pure, Result.andThen_ok, List.map_toArray, List.map_cons, List.map_nil, hs, hx, hr]
  exact h v' w' h2 h3
set_option maxRecDepth 100000 in
set_option maxHeartbeats 3200000 in
theorem text_Print (d : Deed) (v : Value) (F : Fp) (w : World) (h : RdD w F v d) (hr : wrongI d = 0) (hv : Vars w) :
    Calls Tryd.prog 13 #[v] w fun e w' => e = .returned (.string (strB (printP d))) ∧ Below w.heap.size w w' := by
  obtain ⟨dv, rfl, hd⟩ := h
  replace hd := okB.lt hd
  obtain ⟨A, c, rfl, _, _⟩ := hd.shape
  obtain ⟨hn, hq⟩ := wrong_ok hr
  obtain ⟨dk, dn, dm, l⟩ := d
  simp only at hn hq hd
  obtain ⟨n, rfl⟩ : ∃ n : Nat, dn = n := ⟨dn.toNat, by have := hn.1; omega⟩
  have hn9 : n < 9 := by have := hn.2; omega
  obtain ⟨L, hL⟩ : ∃ L, l.length = L := ⟨_, rfl⟩
  simp only [hL] at hd hq ⊢
  have HL := Lib.hid hL
  have hA := boxAt_new w 24 [.int .i64 dk, .int .i64 (n : Int), .int .i64 dm, .slice A L c]
  have hb := below_alloc w (.cells #[.int .i64 dk, .int .i64 (n : Int), .int .i64 dm, .slice A L c] 24)
  change BoxAt (w.alloc (.cells #[.int .i64 dk, .int .i64 (n : Int), .int .i64 dm, .slice A L c] 24)) _ _ _ at hA
  have hsz := alloc_size w (.cells #[.int .i64 dk, .int .i64 (n : Int), .int .i64 dm, .slice A L c] 24)
  obtain ⟨w1, hW⟩ : ∃ x, w.alloc (.cells #[.int .i64 dk, .int .i64 (n : Int), .int .i64 dm, .slice A L c] 24) = x := ⟨_, rfl⟩
  rw [hW] at hA hb hsz
  have HA := Lib.hid hA
  have HB := Lib.hid hb
  have HD := Lib.hid (okB.grow hd hb)
  have HV := Lib.hid (hv.grow hb)
  obtain ⟨p0, p1, p2, p3⟩ := hA.four
  obtain ⟨x, hx, hx1⟩ := itoa_one hn9
  have HX := Lib.hid hx
  clear hd hA hb hv hn hr hL hx
  rcases hq with ⟨hk, hm, hl4⟩ | ⟨hk, hm, _, hl0⟩
  · subst hk
    subst hm
    subst hl4
    have HP := Lib.hid (show printP ⟨1, n, 0, l⟩ = wordW ++ 32 :: (Lib.itoa n ++ 32 :: hexOut l) from rfl)
    go_enter Tryd.func13, Tryd.ntmps13
    go_wp2_with fail
    refine (Tryd.strconv_Itoa (n : Int) (by omega) (by omega) _ HV.out.tab).mono ?_
    rintro e w2 ⟨rfl, k, os, hw2⟩
    have hb2 : Below w1.heap.size w1 w2 := by rw [hw2]; exact Lib.below_grow _ w1 (Nat.le_refl _) k os
    clear hw2
    obtain ⟨u, w3, hr3, ho3, hb3⟩ := run_bytes_own (P := Tryd.prog) w2 (wordW ++ 32 :: (Lib.itoa n ++ [32])) (src := 9) (dst := 22) (e := 5) Tryd.underlying9 Tryd.underlying22 Tryd.underlying5 (by rw [List.length_append, List.length_cons, List.length_append, itoa_short ⟨n, hn9⟩]; decide)
    rw [← join_write, HX.out] at hr3
    have HT := Lib.hid (show (wordW ++ 32 :: (Lib.itoa n ++ [32])).length = 8 by rw [List.length_append, List.length_cons, List.length_append, itoa_short ⟨n, hn9⟩]; decide)
    obtain ⟨T, hT⟩ : ∃ T, wordW ++ 32 :: (Lib.itoa n ++ [32]) = T := ⟨_, rfl⟩
    rw [hT] at HT ho3
    obtain ⟨B, hB⟩ : ∃ B, w2.heap.size = B := ⟨_, rfl⟩
    rw [hB] at ho3 hb3
    have hB1 : w1.heap.size ≤ B := by rw [← hB]; exact hb2.size
    have HA3 := Lib.hid ((HA.out.grow hb2).keep hb3 (by omega))
    have HB3 := Lib.hid (HB.out.trans ((hb2.mono (by omega)).trans (hb3.mono (by omega))))
    have HD3 := Lib.hid (okB.below (okB.grow HD.out hb2) hb3 (by omega))
    have HO3 := Lib.hid ho3
    have hB3 : B ≤ w3.heap.size := by rw [← hB]; exact hb3.size
    obtain ⟨q0, q1, q2, q3⟩ := HA3.out.four
    have HTT := Lib.hid hT
    clear ho3 hb3 hT
    change (convert 9 22 (.string (⟨#[119, 114, 105, 116, 101, 32]⟩ ++ x ++ ⟨#[32]⟩))).run Tryd.prog w2 = _ at hr3
    change Hid (⟨(Lib.itoa n).toArray⟩ = x) at HX
    rw [HX.out]
    go_wp2_with fail
    clear q0 q1 q2 q3 hr3
    obtain ⟨bd, od, cd, hA4, hFb, hbl, hc4, hcm⟩ := (HD3.out).form (by rw [HL.out]; decide)
    rw [HL.out] at hA4 hc4
    injection hA4 with hA5 _ hc5
    subst hA5
    subst hc5
    go_loopw [3, 27] (fun s i wr => ∃ (j : Nat), i = .int .i64 (j : Int) ∧ j ≤ 4 ∧ OwnX wr B s (T ++ hexOut (l.take j)) ∧ Below B w3 wr) (fun _ i _ => 5 - (intOf i).toNat)
    case atStart => exact ⟨0, rfl, Nat.zero_le _, by simpa [hexOut] using HO3.out, Below.refl _ _⟩
    case round =>
      obtain ⟨j, rfl, hj, hO, hBr⟩ := hrel
      have HO := Lib.hid hO
      have HR := Lib.hid hBr
      have hszr : w3.heap.size ≤ wr.heap.size := hBr.size
      by_cases hlt : j < 4
      · have hjl : j < l.length := by rw [HL.out]; exact hlt
        obtain ⟨cc, hcc⟩ : ∃ cc, l[j] = cc := ⟨_, rfl⟩
        obtain ⟨uc, hcell, huc⟩ := RdL_q (okB.below HD3.out hBr (by intro k hk _; have := hk.2; omega)) (k := j) (x := cc) (by rw [List.getElem?_eq_getElem hjl, hcc])
        obtain rfl : uc = B8 cc := huc
        rw [show B8 cc = .int .u8 ((cc.toNat : Nat) : Int) from rfl] at hcell
        have HCC := Lib.hid hcc
        have dl : decide ((j : Int) < 4) = true := by simp; omega
        clear hO hBr hcc
        obtain ⟨a, ha⟩ : ∃ a, cc.toNat / 16 = a := ⟨_, rfl⟩
        obtain ⟨b, hbb⟩ : ∃ b, cc.toNat % 16 = b := ⟨_, rfl⟩
        have hcl := cc.toNat_lt
        have ha16 : a < 16 := by omega
        have hb16 : b < 16 := by omega
        have hdv : (cc.toNat : Int) / 16 = (a : Int) := by omega
        have hbn : bits BinOp.and IntKind.u8 (cc.toNat : Int) 15 = (b : Int) := by rw [← hbb]; exact and_low cc
        have HDG := Lib.hid (And.intro ha hbb)
        clear ha hbb hcl
        have HTL := Lib.hid (show (T ++ hexOut (l.take j)).length = 8 + 2 * j by rw [List.length_append, HT.out, hexOut_len, List.length_take]; omega)
        go_wp2_with fail
        refine region_three6 (B) [Ek 0 (Ox B (T ++ hexOut (l.take j))), Ck (.int .u8 ((cc.toNat : Nat) : Int)), Ck (.int .u8 ((a : Nat) : Int)), Ck (.int .u8 (((hexC (a)).toNat : Nat) : Int)), Ck (.int .u8 ((cc.toNat : Nat) : Int)), Ck (.int .u8 ((b : Nat) : Int)), Ck (.int .u8 (((hexC (b)).toNat : Nat) : Int)), Ek 0 (Rv RdB [hexC (a), hexC (b)]), Fk 1 (Ox B ((T ++ hexOut (l.take j)) ++ [hexC (a), hexC (b)])), Fk 1 (Ox B ((T ++ hexOut (l.take j)) ++ [hexC (a), hexC (b)]))] (fun q wx => q = 0 → OwnX wx B u3 (T ++ hexOut (l.take j))) [8] (by kernel_rfl) (by kernel_rfl) (by kernel_rfl) (by kernel_rfl) (by kernel_rfl) ?_ ?_ (fun _ _ _ hb h e => (h e).grow hb) (fun _ => HO.out) ?_ ?_
        · first | exact Nat.le_refl _ | assumption | omega
        · repeat (first | exact trivial | refine ⟨mCk _, ?_⟩ | refine ⟨mTk, ?_⟩ | refine ⟨mEk _ (by first | exact mC _ | exact mT | exact mR okB _ | exact mR okBB _ | exact mR okBBB _ | exact mRn okB _ _ | exact mRn okBB _ _ | exact mOw _ _ _ _ | exact mRm okB _ _ _ | exact mRa _ _ | exact mRg okROW _ _ | exact mRg okROWS _ _ | exact mRf okDISKS _ _ | exact mRg okCELL _ _ | exact mRg okBB _ _ | exact mRg okB _ _ | exact mRg okIs _ _ | exact mRi _ _ | exact mOx _ _), ?_⟩ | refine ⟨mFk _ (by first | exact mC _ | exact mT | exact mR okB _ | exact mR okBB _ | exact mR okBBB _ | exact mRn okB _ _ | exact mRn okBB _ _ | exact mOw _ _ _ _ | exact mRm okB _ _ _ | exact mRa _ _ | exact mRg okROW _ _ | exact mRg okROWS _ _ | exact mRf okDISKS _ _ | exact mRg okCELL _ _ | exact mRg okBB _ _ | exact mRg okB _ _ | exact mRg okIs _ _ | exact mRi _ _ | exact mOx _ _), ?_⟩ | refine ⟨fun _ => (by first | exact mC _ | exact mT | exact mR okB _ | exact mR okBB _ | exact mR okBBB _ | exact mRn okB _ _ | exact mRn okBB _ _ | exact mOw _ _ _ _ | exact mRm okB _ _ _ | exact mRa _ _ | exact mRg okROW _ _ | exact mRg okROWS _ _ | exact mRf okDISKS _ _ | exact mRg okCELL _ _ | exact mRg okBB _ _ | exact mRg okB _ _ | exact mRg okIs _ _ | exact mRi _ _ | exact mOx _ _), ?_⟩)
        · simp only [StepsL6]
          refine ⟨?_, ?_, ?_, ?_, ?_, ?_, ?_, ?_, ?_, ?_, trivial⟩
          · refine @id (StepG6 _ _ _ _ _ _ _ _ _ _ _) ?_
            intro nst ys wx hn hmay hw hS hd hst
            obtain rfl : nst = 0 := may_one hmay hn (by kernel_rfl)
            intro K hK
            have e9 : ys 9 = u3 := hst 9 (by kernel_rfl)
            simp only [putL, Act.put, List.setIfInBounds_toArray, List.set_cons_zero, List.set_cons_succ, Nat.zero_add, Nat.reduceAdd, e9] at hK ⊢
            rw [if_pos (by rfl)]
            exact hK _ _ (Below.refl _ _) (hS rfl)
          · refine @id (StepG6 _ _ _ _ _ _ _ _ _ _ _) ?_
            intro nst ys wx hn hmay hw hS hd hst
            intro K hK
            simp only [putL, Act.put, List.setIfInBounds_toArray, List.set_cons_zero, List.set_cons_succ, Nat.zero_add, Nat.reduceAdd] at hK ⊢
            rw [if_pos (by rfl)]
            go_simp
            exact hK _ _ (Below.refl _ _) rfl
          · refine @id (StepG6 _ _ _ _ _ _ _ _ _ _ _) ?_
            intro nst ys wx hn hmay hw hS hd hst
            intro K hK
            have e1 : ys 1 = _ := hd 1 (by decide)
            simp only [putL, Act.put, List.setIfInBounds_toArray, List.set_cons_zero, List.set_cons_succ, Nat.zero_add, Nat.reduceAdd, e1] at hK ⊢
            rw [if_pos (by rfl)]
            go_simp
            exact hK _ _ (Below.refl _ _) rfl
          · refine @id (StepG6 _ _ _ _ _ _ _ _ _ _ _) ?_
            intro nst ys wx hn hmay hw hS hd hst
            intro K hK
            have e2 : ys 2 = _ := hd 2 (by decide)
            simp only [putL, Act.put, List.setIfInBounds_toArray, List.set_cons_zero, List.set_cons_succ, Nat.zero_add, Nat.reduceAdd, e2] at hK ⊢
            rw [if_pos (by rfl)]
            have q0 : (0 : Int) ≤ a := by omega
            have q1 : (a : Int) < 16 := by omega
            have q2 : (a : Int).toNat = a := by omega
            go_simp
            exact hK _ _ (Below.refl _ _) (hexC_val ha16)
          · refine @id (StepG6 _ _ _ _ _ _ _ _ _ _ _) ?_
            intro nst ys wx hn hmay hw hS hd hst
            intro K hK
            simp only [putL, Act.put, List.setIfInBounds_toArray, List.set_cons_zero, List.set_cons_succ, Nat.zero_add, Nat.reduceAdd] at hK ⊢
            rw [if_pos (by rfl)]
            go_simp
            exact hK _ _ (Below.refl _ _) rfl
          · refine @id (StepG6 _ _ _ _ _ _ _ _ _ _ _) ?_
            intro nst ys wx hn hmay hw hS hd hst
            intro K hK
            have e4 : ys 4 = _ := hd 4 (by decide)
            simp only [putL, Act.put, List.setIfInBounds_toArray, List.set_cons_zero, List.set_cons_succ, Nat.zero_add, Nat.reduceAdd, e4] at hK ⊢
            rw [if_pos (by rfl)]
            go_simp
            exact hK _ _ (Below.refl _ _) rfl
          · refine @id (StepG6 _ _ _ _ _ _ _ _ _ _ _) ?_
            intro nst ys wx hn hmay hw hS hd hst
            intro K hK
            have e5 : ys 5 = _ := hd 5 (by decide)
            simp only [putL, Act.put, List.setIfInBounds_toArray, List.set_cons_zero, List.set_cons_succ, Nat.zero_add, Nat.reduceAdd, e5] at hK ⊢
            rw [if_pos (by rfl)]
            have q0 : (0 : Int) ≤ b := by omega
            have q1 : (b : Int) < 16 := by omega
            have q2 : (b : Int).toNat = b := by omega
            go_simp
            exact hK _ _ (Below.refl _ _) (hexC_val hb16)
          · refine @id (StepG6 _ _ _ _ _ _ _ _ _ _ _) ?_
            intro nst ys wx hn hmay hw hS hd hst
            obtain rfl : nst = 0 := may_one hmay hn (by kernel_rfl)
            intro K hK
            have e3 : ys 3 = _ := hd 3 (by decide)
            have e6 : ys 6 = _ := hd 6 (by decide)
            simp only [putL, Act.put, List.setIfInBounds_toArray, List.set_cons_zero, List.set_cons_succ, Nat.zero_add, Nat.reduceAdd, e3, e6] at hK ⊢
            rw [if_pos (by rfl)]
            go_simp
            exact hK _ _ (below_alloc _ _) (RdL.two_ ok8 rfl rfl _ (by rw [alloc_size]; exact Nat.lt_succ_self _))
          · refine @id (StepS6 _ _ _ _ _ _ _ _ _ _ _) ?_
            intro ys wx hw hS hd hst K hK
            have k0 := hd 0 (by decide)
            change (Ox B (T ++ hexOut (l.take j))) wx (ys 0) at k0
            have k7 := hd 7 (by decide)
            change (Rv RdB [hexC (a), hexC (b)]) wx (ys 7) at k7
            simp only [putL, Act.put, List.setIfInBounds_toArray, List.set_cons_zero, List.set_cons_succ, Nat.zero_add, Nat.reduceAdd] at hK ⊢
            rw [if_pos (by rfl)]
            have hs0 := hw.size
            refine wp_append_own _ _ 22 (by rfl) slB B (ys 0) _ _ _ (by rfl) (by rfl) k0 k7 (by simp) (by rw [HTL.out]; simp; omega) (by omega) ?_
            intro v' w' h1 h2
            exact hK _ _ h2 (fun e => absurd e (by decide)) h1 ⟨fun _ _ => trivial, fun _ h => h, fun _ h => h, fun _ h => h, fun _ h => h, fun _ h => h, fun _ h => h, fun _ _ => trivial, fun _ h => h.elim, fun _ h => h.elim, trivial⟩
          · refine @id (StepG6 _ _ _ _ _ _ _ _ _ _ _) ?_
            intro nst ys wx hn hmay hw hS hd hst
            obtain rfl : nst = 1 := may_one hmay hn (by kernel_rfl)
            intro K hK
            have k8 := hd 8 (by decide)
            change (Ox B ((T ++ hexOut (l.take j)) ++ [hexC (a), hexC (b)])) wx (ys 8) at k8
            simp only [putL, Act.put, List.setIfInBounds_toArray, List.set_cons_zero, List.set_cons_succ, Nat.zero_add, Nat.reduceAdd] at hK ⊢
            rw [if_pos (by rfl)]
            go_simp
            exact hK _ _ (Below.refl _ _) k8
        · intro ys w' hl' hS' hV
          have k9 := hV 9 (by decide)
          change (Ox B ((T ++ hexOut (l.take j)) ++ [hexC (a), hexC (b)])) w' (ys 9) at k9
          clear hV
          simp only [putL, Act.put, List.setIfInBounds_toArray, List.set_cons_zero, List.set_cons_succ, Nat.zero_add, Nat.reduceAdd]
          have HN := Lib.hid (show OwnX w' B (ys 9) (T ++ hexOut (l.take (j + 1))) by
            rw [hexOut_next hjl, HCC.out, HDG.out.1, HDG.out.2, ← List.append_assoc]
            exact k9)
          have HR2 := Lib.hid (HR.out.trans hl')
          clear k9 hl' hS'
          go_wp2
          go_roundw
          case rel => exact ⟨j + 1, by go_num, by omega, HN.out, HR2.out⟩
          case measure => simp [intOf]; omega
      · obtain rfl : j = 4 := by omega
        have hrd := HO.out.rd
        rw [List.take_of_length_le (show l.length ≤ 4 by rw [HL.out]; exact Nat.le_refl _)] at hrd
        have hcv := run_conv hrd Tryd.underlying22 Tryd.underlying5 Tryd.underlying9
        clear hrd hO hBr
        go_wp2_with fail
        go_ret
        exact ⟨ret_str (by rw [HP.out, ← HTT.out]; exact congrArg strB (by simp)), HB3.out.trans (HR.out.mono (by omega))⟩
  · subst hk
    subst hl0
    obtain ⟨m, rfl⟩ : ∃ m : Nat, dm = m := ⟨dm.toNat, by have := hm.1; omega⟩
    have hm9 : m < 9 := by have := hm.2; omega
    have HP := Lib.hid (show printP ⟨2, n, m, l⟩ = wordS ++ 32 :: (Lib.itoa n ++ 32 :: Lib.itoa m) from rfl)
    obtain ⟨y, hy, hy1⟩ := itoa_one hm9
    have HY := Lib.hid hy
    clear hm hy
    go_enter Tryd.func13, Tryd.ntmps13
    go_wp2_with fail
    refine region_list [Cv (.pointer (some ⟨w.heap.size, 1, none⟩)), Cv (.int .i64 (n : Int)), Cv (.string x), Cv (.string (⟨#[115, 119, 97, 112, 32]⟩ ++ x)), Cv (.string (⟨#[115, 119, 97, 112, 32]⟩ ++ x ++ ⟨#[32]⟩)), Cv (.pointer (some ⟨w.heap.size, 2, none⟩)), Cv (.int .i64 (m : Int)), Cv (.string y), Cv (.string (⟨#[115, 119, 97, 112, 32]⟩ ++ x ++ ⟨#[32]⟩ ++ y)), Cv (.string (⟨#[115, 119, 97, 112, 32]⟩ ++ x ++ ⟨#[32]⟩ ++ y))] (by kernel_rfl) (by kernel_rfl) (by kernel_rfl) ?_ ?_ ?_
    · repeat (first | exact trivial | refine ⟨mC _, ?_⟩ | refine ⟨mR okB _, ?_⟩ | refine ⟨mT, ?_⟩ | refine ⟨mR okBB _, ?_⟩ | refine ⟨mR okBBB _, ?_⟩ | refine ⟨mR (okL okI) _, ?_⟩ | refine ⟨mKt _, ?_⟩ | refine ⟨mRa _ _, ?_⟩)
    · simp only [StepsL]
      refine ⟨?_, ?_, ?_, ?_, ?_, ?_, ?_, ?_, ?_, ?_, trivial⟩
      · intro ys wx hw hd K hK
        simp only [putL, Act.put, List.setIfInBounds_toArray, List.set_cons_zero, List.set_cons_succ, Nat.zero_add, Nat.reduceAdd] at hK ⊢
        rw [if_pos (by rfl)]
        go_simp
        exact hK _ _ (Below.refl _ _) rfl
      · intro ys wx hw hd K hK
        have e0 : ys 0 = _ := hd 0 (by decide)
        simp only [putL, Act.put, List.setIfInBounds_toArray, List.set_cons_zero, List.set_cons_succ, Nat.zero_add, Nat.reduceAdd, e0] at hK ⊢
        rw [if_pos (by rfl)]
        obtain ⟨kb0, kb1, kb2, kb3⟩ := (BoxAt.four (HA.out.grow hw))
        go_simp
        exact hK _ _ (Below.refl _ _) rfl
      · intro ys wx hw hd K hK
        have e1 : ys 1 = _ := hd 1 (by decide)
        simp only [putL, Act.put, List.setIfInBounds_toArray, List.set_cons_zero, List.set_cons_succ, Nat.zero_add, Nat.reduceAdd, e1] at hK ⊢
        rw [if_pos (by rfl)]
        go_simp
        refine (Tryd.strconv_Itoa (n : Int) (by omega) (by omega) wx (HV.out.grow hw).tab).mono ?_
        rintro e w' ⟨rfl, k, os, rfl⟩
        exact hK _ _ (Lib.below_grow _ wx (Nat.le_refl _) k os) (by rw [← HX.out]; rfl)
      · intro ys wx hw hd K hK
        have e2 : ys 2 = _ := hd 2 (by decide)
        simp only [putL, Act.put, List.setIfInBounds_toArray, List.set_cons_zero, List.set_cons_succ, Nat.zero_add, Nat.reduceAdd, e2] at hK ⊢
        rw [if_pos (by rfl)]
        go_simp
        exact hK _ _ (Below.refl _ _) rfl
      · intro ys wx hw hd K hK
        have e3 : ys 3 = _ := hd 3 (by decide)
        simp only [putL, Act.put, List.setIfInBounds_toArray, List.set_cons_zero, List.set_cons_succ, Nat.zero_add, Nat.reduceAdd, e3] at hK ⊢
        rw [if_pos (by rfl)]
        go_simp
        exact hK _ _ (Below.refl _ _) rfl
      · intro ys wx hw hd K hK
        simp only [putL, Act.put, List.setIfInBounds_toArray, List.set_cons_zero, List.set_cons_succ, Nat.zero_add, Nat.reduceAdd] at hK ⊢
        rw [if_pos (by rfl)]
        go_simp
        exact hK _ _ (Below.refl _ _) rfl
      · intro ys wx hw hd K hK
        have e5 : ys 5 = _ := hd 5 (by decide)
        simp only [putL, Act.put, List.setIfInBounds_toArray, List.set_cons_zero, List.set_cons_succ, Nat.zero_add, Nat.reduceAdd, e5] at hK ⊢
        rw [if_pos (by rfl)]
        obtain ⟨kb0, kb1, kb2, kb3⟩ := (BoxAt.four (HA.out.grow hw))
        go_simp
        exact hK _ _ (Below.refl _ _) rfl
      · intro ys wx hw hd K hK
        have e6 : ys 6 = _ := hd 6 (by decide)
        simp only [putL, Act.put, List.setIfInBounds_toArray, List.set_cons_zero, List.set_cons_succ, Nat.zero_add, Nat.reduceAdd, e6] at hK ⊢
        rw [if_pos (by rfl)]
        go_simp
        refine (Tryd.strconv_Itoa (m : Int) (by omega) (by omega) wx (HV.out.grow hw).tab).mono ?_
        rintro e w' ⟨rfl, k, os, rfl⟩
        exact hK _ _ (Lib.below_grow _ wx (Nat.le_refl _) k os) (by rw [← HY.out]; rfl)
      · intro ys wx hw hd K hK
        have e4 : ys 4 = _ := hd 4 (by decide)
        have e7 : ys 7 = _ := hd 7 (by decide)
        simp only [putL, Act.put, List.setIfInBounds_toArray, List.set_cons_zero, List.set_cons_succ, Nat.zero_add, Nat.reduceAdd, e4, e7] at hK ⊢
        rw [if_pos (by rfl)]
        go_simp
        exact hK _ _ (Below.refl _ _) rfl
      · intro ys wx hw hd K hK
        have e8 : ys 8 = _ := hd 8 (by decide)
        simp only [putL, Act.put, List.setIfInBounds_toArray, List.set_cons_zero, List.set_cons_succ, Nat.zero_add, Nat.reduceAdd, e8] at hK ⊢
        rw [if_pos (by rfl)]
        go_simp
        exact hK _ _ (Below.refl _ _) rfl
    · intro ys w' hl' hV
      have e9 : ys 9 = _ := hV 9 (by decide)
      clear hV
      simp only [putL, Act.put, List.setIfInBounds_toArray, List.set_cons_zero, List.set_cons_succ, Nat.zero_add, Nat.reduceAdd, e9]
      clear e9
      go_wp2
      go_ret
      exact ⟨ret_str (by rw [HP.out, ← HX.out, ← HY.out]; exact join_swap _ _), HB.out.trans (hl'.mono HB.out.size)⟩
end Go.Proofs.YtdcmbdghnkgghaaDoor

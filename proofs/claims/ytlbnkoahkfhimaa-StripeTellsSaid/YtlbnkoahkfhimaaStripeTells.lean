/- Chapter 7: StripeTells holds for every input: the call returns true, and each argument reads behind it as it read before. -/
import Derived.Test.YtlbnkoahkfhimaaOpen3
import Derived.Test.YtlbnkoahkfhimaaC9g
namespace Go.Proofs.Ytlbnkoahkfhimaa
set_option linter.unusedVariables false
open Go Go.RowKit M
set_option maxRecDepth 100000 in
set_option maxHeartbeats 3200000 in
theorem stripeTells_walk (steps : List Step) (vst : Value) (s : Int) (l : List Bs) (vl : Value) (data : List Bs) (vd : Value) (w : World) (hst : RdSts w (fun _ => True) vst steps) (_ : -9223372036854775808 ≤ s) (_ : s ≤ 9223372036854775807) (hl : RdBB w (fun _ => True) vl l) (hd : RdBB w (fun _ => True) vd data) :
    Calls Try.prog 6 #[vst, .int .i64 s, vl, vd] w fun e w' => e = .returned (.bool true) ∧ Below w.heap.size w w' := by
  obtain ⟨Ast, cst, rfl, _, _⟩ := id hst
  obtain ⟨Al, cl, rfl, hcl, hml⟩ := hl.shape
  obtain ⟨Ad, cd, rfl, hcd, hmd⟩ := hd.shape
  unfold maxLen at hml hmd
  have HW0 := Lib.hid hst
  clear hst
  by_cases h0 : s < 0
  · clear hl hd
    go_enter Try.func6, Try.ntmps6
    go_wp2
    go_ret
    exact ⟨rfl, Below.refl _ _⟩
  have e5 : decide (s < 0) = false := by simpa using h0
  by_cases h3 : 3 ≤ s
  · have e6 : decide (3 ≤ s) = true := by simpa using h3
    clear hl hd
    go_enter Try.func6, Try.ntmps6
    go_wp2
    go_ret
    exact ⟨rfl, Below.refl _ _⟩
  have e6 : decide (3 ≤ s) = false := by simpa using h3
  obtain ⟨s, rfl⟩ := Int.eq_ofNat_of_zero_le (show 0 ≤ s by omega)
  have hs3 : s < 3 := by omega
  clear h0 h3
  go_enter Try.func6, Try.ntmps6
  go_wp2_with fail
  refine (ref_Play steps _ _ _ HW0.out).mono ?_
  rintro e w1 ⟨v1, u1, rfl, hr1, hu1, hb1⟩
  obtain ⟨hsh, hno⟩ := playTo_good steps 100
  change RdA w1 _ v1 (playTo steps 100) at hr1
  generalize playTo steps 100 = a at *
  obtain ⟨b0, o0, c0, Ai, ci, rfl, _, _, _, _⟩ := RdA_open hr1 hsh
  rw [show a.ints.length = 0 by rw [hno]; rfl] at hr1 ⊢
  have hal := below_alloc w1 (.cells #[.slice (some ⟨b0, o0, none⟩) 4 c0, .slice Ai 0 ci] 41)
  have hA := boxAt_new w1 41 [.slice (some ⟨b0, o0, none⟩) 4 c0, .slice Ai 0 ci]
  have hr2 := hr1.grow hal
  have hb2 := hb1.trans (hal.mono hb1.size)
  obtain ⟨w2, hw2⟩ : ∃ x, w1.alloc (.cells #[.slice (some ⟨b0, o0, none⟩) 4 c0, .slice Ai 0 ci] 41) = x := ⟨_, rfl⟩
  change BoxAt (w1.alloc (.cells #[.slice (some ⟨b0, o0, none⟩) 4 c0, .slice Ai 0 ci] 41)) _ _ _ at hA
  rw [hw2] at hA hr2 hb2
  obtain ⟨BA, hBA⟩ : ∃ x, w1.heap.size = x := ⟨_, rfl⟩
  rw [hBA] at hA
  have H2 := Lib.hid (And.intro hA (And.intro hr2 (And.intro hsh hb2)))
  have HL := Lib.hid (And.intro (okBB.grow hl hb2) (okBB.grow hd hb2))
  clear hal hA hr1 hr2 hb1 hb2 hl hd hno hsh
  go_wp2_with fail
  clear hw2 hBA
  refine region_list [Cv (.agg #[.slice (some ⟨b0, o0, none⟩) 4 c0, .slice Ai 0 ci]), Cv (.int .i64 s), Rv RdBB (cellsA a.disks s), Cv (.agg #[.slice (some ⟨b0, o0, none⟩) 4 c0, .slice Ai 0 ci]), Cv (.int .i64 s), Rv RdBB (cellsA a.disks s), Cv (.bool true), Cv (.bool false)] (by kernel_rfl) (by kernel_rfl) (by kernel_rfl) ?_ ?_ ?_
  · repeat (first | exact trivial | refine ⟨mC _, ?_⟩ | refine ⟨mR okB _, ?_⟩ | refine ⟨mT, ?_⟩ | refine ⟨mR okBB _, ?_⟩ | refine ⟨mR okBBB _, ?_⟩ | refine ⟨mKt _, ?_⟩ | refine ⟨mRa _ _, ?_⟩)
  · simp only [StepsL]
    refine ⟨?_, ?_, ?_, ?_, ?_, ?_, ?_, ?_, trivial⟩
    · intro ys wx hw hd K hK
      simp only [putL, Act.put, List.setIfInBounds_toArray, List.set_cons_zero, List.set_cons_succ, Nat.zero_add, Nat.reduceAdd] at hK ⊢
      rw [if_pos (by rfl)]
      obtain ⟨kb0, kb1, _⟩ := (H2.out.1.grow hw).two
      go_simp
      exact hK _ _ (Below.refl _ _) rfl
    · intro ys wx hw hd K hK
      simp only [putL, Act.put, List.setIfInBounds_toArray, List.set_cons_zero, List.set_cons_succ, Nat.zero_add, Nat.reduceAdd] at hK ⊢
      rw [if_pos (by rfl)]
      go_simp
      exact hK _ _ (Below.refl _ _) rfl
    · intro ys wx hw hd K hK
      have e0 : ys 0 = _ := hd 0 (by decide)
      have e1 : ys 1 = _ := hd 1 (by decide)
      simp only [putL, Act.put, List.setIfInBounds_toArray, List.set_cons_zero, List.set_cons_succ, Nat.zero_add, Nat.reduceAdd, e0, e1] at hK ⊢
      rw [if_pos (by rfl)]
      go_simp
      refine (stripe_Cells a s _ _ _ (H2.out.2.1.grow hw) H2.out.2.2.1 hs3).mono ?_
      rintro e w' ⟨v', rfl, hv', hb'⟩
      exact hK _ _ hb' (hv'.toRd_ okB)
    · intro ys wx hw hd K hK
      simp only [putL, Act.put, List.setIfInBounds_toArray, List.set_cons_zero, List.set_cons_succ, Nat.zero_add, Nat.reduceAdd] at hK ⊢
      rw [if_pos (by rfl)]
      obtain ⟨kb0, kb1, _⟩ := (H2.out.1.grow hw).two
      go_simp
      exact hK _ _ (Below.refl _ _) rfl
    · intro ys wx hw hd K hK
      simp only [putL, Act.put, List.setIfInBounds_toArray, List.set_cons_zero, List.set_cons_succ, Nat.zero_add, Nat.reduceAdd] at hK ⊢
      rw [if_pos (by rfl)]
      go_simp
      exact hK _ _ (Below.refl _ _) rfl
    · intro ys wx hw hd K hK
      have e3 : ys 3 = _ := hd 3 (by decide)
      have e4 : ys 4 = _ := hd 4 (by decide)
      simp only [putL, Act.put, List.setIfInBounds_toArray, List.set_cons_zero, List.set_cons_succ, Nat.zero_add, Nat.reduceAdd, e3, e4] at hK ⊢
      rw [if_pos (by rfl)]
      go_simp
      refine (ref_Cells a s _ _ _ (H2.out.2.1.grow hw) H2.out.2.2.1 hs3).mono ?_
      rintro e w' ⟨v', rfl, hv', hb'⟩
      exact hK _ _ hb' (hv'.toRd_ okB)
    · intro ys wx hw hd K hK
      have k2 := hd 2 (by decide)
      change (Rv RdBB (cellsA a.disks s)) wx (ys 2) at k2
      have k5 := hd 5 (by decide)
      change (Rv RdBB (cellsA a.disks s)) wx (ys 5) at k5
      simp only [putL, Act.put, List.setIfInBounds_toArray, List.set_cons_zero, List.set_cons_succ, Nat.zero_add, Nat.reduceAdd] at hK ⊢
      rw [if_pos (by rfl)]
      go_simp
      refine (ref_SameBytes _ _ _ _ _ _ k2 k5).mono ?_
      rintro e w' ⟨rfl, hb'⟩
      exact hK _ _ hb' (by rw [beq_self_eq_true]; rfl)
    · intro ys wx hw hd K hK
      have e6 : ys 6 = _ := hd 6 (by decide)
      simp only [putL, Act.put, List.setIfInBounds_toArray, List.set_cons_zero, List.set_cons_succ, Nat.zero_add, Nat.reduceAdd, e6] at hK ⊢
      rw [if_pos (by rfl)]
      go_simp
      exact hK _ _ (Below.refl _ _) rfl
  · intro ys w' hl' hV
    have e7 : ys 7 = _ := hV 7 (by decide)
    clear hV
    simp only [putL, Act.put, List.setIfInBounds_toArray, List.set_cons_zero, List.set_cons_succ, Nat.zero_add, Nat.reduceAdd, e7]
    clear e7
    rename_i w3
    have hb3 := H2.out.2.2.2.trans (hl'.mono H2.out.2.2.2.size)
    have hl3 := okBB.grow HL.out.1 hl'
    have hd3 := okBB.grow HL.out.2 hl'
    clear hl' H2 HL
    by_cases h4 : l.length = 4
    rotate_left
    · have e4 : ((l.length : Int) == 4) = false := by simp; omega
      have HD := Lib.hid hd3
      have HB := Lib.hid hb3
      clear h4 hl3 hb3 hd3
      go_wp2_with fail
      rename World => wt
      go_loopw [93] (fun i wr => ∃ k : Nat, k ≤ data.length ∧ i = .int .i64 k ∧ (∀ j, j < k → (data.getD j []).length = 4) ∧ Below wt.heap.size wt wr) (fun i _ => data.length - (intOf i).toNat)
      case atStart => exact ⟨0, Nat.zero_le _, rfl, fun j hj => by omega, Below.refl _ _⟩
      case round =>
        obtain ⟨k, hk, rfl, hpre, hlw⟩ := hrel
        have HP := Lib.hid hpre
        have HLW := Lib.hid hlw
        have hbw := HB.out.trans (hlw.mono HB.out.size)
        clear hpre
        by_cases hlt : k < data.length
        · have hbk : decide ((k : Int) < data.length) = true := by simp; omega
          obtain ⟨b, off, u, rfl, _, hu, hR⟩ := (okBB.grow HD.out hlw).at_ hlt
          obtain ⟨A2, c2, rfl, _, _⟩ := hR.shape
          have HG := Lib.hid (show data.getD k [] = data[k] by simp [List.getD, List.getElem?_eq_getElem hlt])
          clear hlw
          by_cases hl4 : data[k].length = 4
          · have e11 : ((data[k].length : Int) != 4) = false := by simp; omega
            have HL := Lib.hid hl4
            clear hl4
            go_wp2
            go_roundw
            case rel => exact ⟨k + 1, by omega, by go_num, fun j hj => by rcases Nat.lt_succ_iff_lt_or_eq.1 hj with h | rfl; exact HP.out j h; rw [HG.out, HL.out], HLW.out⟩
            case measure => simp [intOf]; omega
          · have e11 : ((data[k].length : Int) != 4) = true := by simp; omega
            clear hl4
            go_wp2
            go_ret
            exact ⟨rfl, hbw⟩
        · obtain rfl : k = data.length := by omega
          by_cases hd4 : data.length = 4
          rotate_left
          · have e12 : ((data.length : Int) != 4) = true := by simp; omega
            clear hd4 hlw hk hlt
            go_wp2
            go_ret
            exact ⟨rfl, hbw⟩
          have hB4 : Blocks4 data := fun b hb => by
            obtain ⟨j, hj, rfl⟩ := List.getElem_of_mem hb
            have := HP.out j hj
            simpa [List.getD, List.getElem?_eq_getElem hj] using this
          have hdx := okBB.grow HD.out hlw
          rw [hd4] at hdx ⊢
          have HB4 := Lib.hid hB4
          have HD4 := Lib.hid hd4
          clear hlw hB4 hk hlt hd4
          go_wp2_with fail
          refine (stripe_Make data s _ _ _ hdx (by omega) (by rw [HD4.out]; decide) HB4.out).mono ?_
          rintro e wm ⟨vm, rfl, hvm, hbm⟩
          have hrm := hvm.toRd okB (R' := RdB) (fun h => h) okB
          have hdy := okBB.grow hdx hbm
          have hbm' := hbw.trans (hbm.mono hbw.size)
          clear hvm hdx hbm hbw
          go_wp2_with fail
          refine (ref_Make data s _ _ _ hdy (by omega) (by rw [HD4.out]; decide) HB4.out).mono ?_
          rintro e wn ⟨vn, rfl, hvn, hbn⟩
          have hrn := hvn.toRd okB (R' := RdB) (fun h => h) okB
          have hrm2 := okBB.grow hrm hbn
          have hbn' := hbm'.trans (hbn.mono hbm'.size)
          clear hvn hrm hbn hbm' hdy
          go_wp2_with fail
          refine (ref_SameBytes _ _ _ _ (fun _ => True) _ (okBB.mono hrm2 fun _ _ => trivial) (okBB.mono hrn fun _ _ => trivial)).mono ?_
          rintro e wo ⟨rfl, hbo⟩
          rw [beq_self_eq_true]
          have hbe := hbn'.trans (hbo.mono hbn'.size)
          clear hrm2 hrn hbo hbn'
          go_wp2
          go_ret
          exact ⟨rfl, hbe⟩
    · have e4 : ((l.length : Int) == 4) = true := by simp; omega
      rw [h4] at hl3 ⊢
      have H4 := Lib.hid h4
      clear h4
      go_wp2_with fail
      refine (stripe_Data l s _ _ _ hl3 (by rw [H4.out]; decide)).mono ?_
      rintro e w4 ⟨v4, rfl, hv4, hb4⟩
      have hx4 := hv4.toRd_ okB
      have hl4 := okBB.grow hl3 hb4
      have hd4 := okBB.grow hd3 hb4
      have hb4' := hb3.trans (hb4.mono hb3.size)
      clear hv4 hb4 hb3 hl3 hd3
      go_wp2_with fail
      refine (ref_Data l s _ _ _ hl4 (by rw [H4.out]; decide)).mono ?_
      rintro e w5 ⟨v5, rfl, hv5, hb5⟩
      have hy5 := hv5.toRd_ okB
      have hx5 := okBB.grow hx4 hb5
      have hl5 := okBB.grow hl4 hb5
      have hd5 := okBB.grow hd4 hb5
      have hb5' := hb4'.trans (hb5.mono hb4'.size)
      clear hv5 hb5 hb4' hl4 hd4 hx4
      generalize (dataL l s).2 = er at *
      go_wp2_with fail
      refine (stripe_Bad l s _ _ _ hl5 (by rw [H4.out]; decide)).mono ?_
      rintro e w6 ⟨v6, rfl, hv6, hb6⟩
      have hl6 := okBB.grow hl5 hb6
      have hp6 := hv6.toRd_ okI
      clear hv6
      go_wp2_with fail
      refine (ref_Bad l s _ _ _ hl6 (by rw [H4.out]; decide)).mono ?_
      rintro e w7 ⟨v7, rfl, hv7, hb7⟩
      have hb67 := hb6.trans (hb7.mono hb6.size)
      have hq7 := hv7.toRd_ okI
      have hp7 := (okL okI).grow hp6 hb7
      have hx7 := okBB.grow hx5 hb67
      have hy7 := okBB.grow hy5 hb67
      have hd7 := okBB.grow hd5 hb67
      have hb7' := hb5'.trans (hb67.mono hb5'.size)
      obtain ⟨A6, c6, rfl, hc6, hc6m⟩ := hp7.shape
      obtain ⟨A7, c7, rfl, hc7, hc7m⟩ := hq7.shape
      unfold maxLen at hc6m hc7m
      generalize ints (badL l s) = bads at *
      clear hv7 hb6 hb7 hb67 hp6 hl5 hl6 hx5 hy5 hd5 hb5'
      go_wp2_with fail
      refine (ref_SameBytes _ _ _ _ (fun _ => True) _ (okBB.mono hx7 fun _ _ => trivial) (okBB.mono hy7 fun _ _ => trivial)).mono ?_
      rintro e w8 ⟨rfl, hb8⟩
      rw [beq_self_eq_true]
      have HPQ := Lib.hid (And.intro ((okL okI).grow hp7 hb8) ((okL okI).grow hq7 hb8))
      have HD := Lib.hid (okBB.grow hd7 hb8)
      have HB := Lib.hid (hb7'.trans (hb8.mono hb7'.size))
      clear hb8 hp7 hq7 hx7 hy7 hd7 hb7'
      go_wp2_with fail
      go_loopw [78] (fun i wr => ∃ k : Nat, k ≤ bads.length ∧ i = .int .i64 k ∧ Below w8.heap.size w8 wr) (fun i _ => bads.length - (intOf i).toNat)
      case atStart => exact ⟨0, Nat.zero_le _, rfl, Below.refl _ _⟩
      case round =>
        obtain ⟨k, hk, rfl, hlw⟩ := hrel
        have HLW := Lib.hid hlw
        by_cases hlt : k < bads.length
        · have hbk : decide ((k : Int) < bads.length) = true := by simp; omega
          obtain ⟨bp, op, up, rfl, _, hup, hRp⟩ := ((okL okI).grow HPQ.out.1 hlw).at_ hlt
          obtain ⟨bq, oq, uq, rfl, _, huq, hRq⟩ := ((okL okI).grow HPQ.out.2 hlw).at_ hlt
          obtain rfl : up = .int .i64 bads[k] := hRp
          obtain rfl : uq = .int .i64 bads[k] := hRq
          generalize bads[k] = z at *
          clear hlw
          go_wp2_with fail
          refine region_list [Cv (.slice (some ⟨bp, op, none⟩) bads.length c6), Cv (.int .i64 k), Cv (.pointer (some ⟨bp, op + k, none⟩)), Cv (.int .i64 z), Cv (.slice (some ⟨bq, oq, none⟩) bads.length c7), Cv (.int .i64 k), Cv (.pointer (some ⟨bq, oq + k, none⟩)), Cv (.int .i64 z), Cv (.bool false)] (by kernel_rfl) (by kernel_rfl) (by kernel_rfl) ?_ ?_ ?_
          · repeat (first | exact trivial | refine ⟨mC _, ?_⟩ | refine ⟨mR okB _, ?_⟩ | refine ⟨mT, ?_⟩ | refine ⟨mR okBB _, ?_⟩ | refine ⟨mR okBBB _, ?_⟩ | refine ⟨mKt _, ?_⟩ | refine ⟨mRa _ _, ?_⟩)
          · simp only [StepsL]
            refine ⟨?_, ?_, ?_, ?_, ?_, ?_, ?_, ?_, ?_, trivial⟩
            · intro ys wx hw hd K hK
              simp only [putL, Act.put, List.setIfInBounds_toArray, List.set_cons_zero, List.set_cons_succ, Nat.zero_add, Nat.reduceAdd] at hK ⊢
              rw [if_pos (by rfl)]
              go_simp
              exact hK _ _ (Below.refl _ _) rfl
            · intro ys wx hw hd K hK
              simp only [putL, Act.put, List.setIfInBounds_toArray, List.set_cons_zero, List.set_cons_succ, Nat.zero_add, Nat.reduceAdd] at hK ⊢
              rw [if_pos (by rfl)]
              go_simp
              exact hK _ _ (Below.refl _ _) rfl
            · intro ys wx hw hd K hK
              have e0 : ys 0 = _ := hd 0 (by decide)
              have e1 : ys 1 = _ := hd 1 (by decide)
              simp only [putL, Act.put, List.setIfInBounds_toArray, List.set_cons_zero, List.set_cons_succ, Nat.zero_add, Nat.reduceAdd, e0, e1] at hK ⊢
              rw [if_pos (by rfl)]
              have r1 : (k : Int) < bads.length := by omega
              have r0 : (0 : Int) ≤ k := by omega
              have r2 : (k : Int).toNat = k := by omega
              go_simp
              exact hK _ _ (Below.refl _ _) rfl
            · intro ys wx hw hd K hK
              have e2 : ys 2 = _ := hd 2 (by decide)
              simp only [putL, Act.put, List.setIfInBounds_toArray, List.set_cons_zero, List.set_cons_succ, Nat.zero_add, Nat.reduceAdd, e2] at hK ⊢
              rw [if_pos (by rfl)]
              have kx := (hw.cell (World.block_lt_of_cell? _ _ hup)).trans hup
              go_simp
              exact hK _ _ (Below.refl _ _) rfl
            · intro ys wx hw hd K hK
              simp only [putL, Act.put, List.setIfInBounds_toArray, List.set_cons_zero, List.set_cons_succ, Nat.zero_add, Nat.reduceAdd] at hK ⊢
              rw [if_pos (by rfl)]
              go_simp
              exact hK _ _ (Below.refl _ _) rfl
            · intro ys wx hw hd K hK
              simp only [putL, Act.put, List.setIfInBounds_toArray, List.set_cons_zero, List.set_cons_succ, Nat.zero_add, Nat.reduceAdd] at hK ⊢
              rw [if_pos (by rfl)]
              go_simp
              exact hK _ _ (Below.refl _ _) rfl
            · intro ys wx hw hd K hK
              have e4 : ys 4 = _ := hd 4 (by decide)
              have e5 : ys 5 = _ := hd 5 (by decide)
              simp only [putL, Act.put, List.setIfInBounds_toArray, List.set_cons_zero, List.set_cons_succ, Nat.zero_add, Nat.reduceAdd, e4, e5] at hK ⊢
              rw [if_pos (by rfl)]
              have r1 : (k : Int) < bads.length := by omega
              have r0 : (0 : Int) ≤ k := by omega
              have r2 : (k : Int).toNat = k := by omega
              go_simp
              exact hK _ _ (Below.refl _ _) rfl
            · intro ys wx hw hd K hK
              have e6 : ys 6 = _ := hd 6 (by decide)
              simp only [putL, Act.put, List.setIfInBounds_toArray, List.set_cons_zero, List.set_cons_succ, Nat.zero_add, Nat.reduceAdd, e6] at hK ⊢
              rw [if_pos (by rfl)]
              have kx := (hw.cell (World.block_lt_of_cell? _ _ huq)).trans huq
              go_simp
              exact hK _ _ (Below.refl _ _) rfl
            · intro ys wx hw hd K hK
              have e3 : ys 3 = _ := hd 3 (by decide)
              have e7 : ys 7 = _ := hd 7 (by decide)
              simp only [putL, Act.put, List.setIfInBounds_toArray, List.set_cons_zero, List.set_cons_succ, Nat.zero_add, Nat.reduceAdd, e3, e7] at hK ⊢
              rw [if_pos (by rfl)]
              go_simp
              exact hK _ _ (Below.refl _ _) rfl
          · intro ys w' hl' hV
            have e8 : ys 8 = _ := hV 8 (by decide)
            clear hV
            simp only [putL, Act.put, List.setIfInBounds_toArray, List.set_cons_zero, List.set_cons_succ, Nat.zero_add, Nat.reduceAdd, e8]
            clear e8
            have hbx := HLW.out.trans (hl'.mono HLW.out.size)
            clear hl'
            go_wp2
            go_roundw
            case rel => exact ⟨k + 1, by omega, by go_num, hbx⟩
            case measure => simp [intOf]; omega
        · obtain rfl : k = bads.length := by omega
          replace HD := Lib.hid (okBB.grow HD.out hlw)
          replace HB := Lib.hid (HB.out.trans (hlw.mono HB.out.size))
          clear hlw HLW hk hlt HPQ
          go_wp2_with fail
          rename World => wt
          go_loopw [93] (fun i wr => ∃ k : Nat, k ≤ data.length ∧ i = .int .i64 k ∧ (∀ j, j < k → (data.getD j []).length = 4) ∧ Below wt.heap.size wt wr) (fun i _ => data.length - (intOf i).toNat)
          case atStart => exact ⟨0, Nat.zero_le _, rfl, fun j hj => by omega, Below.refl _ _⟩
          case round =>
            obtain ⟨k, hk, rfl, hpre, hlw⟩ := hrel
            have HP := Lib.hid hpre
            have HLW := Lib.hid hlw
            have hbw := HB.out.trans (hlw.mono HB.out.size)
            clear hpre
            by_cases hlt : k < data.length
            · have hbk : decide ((k : Int) < data.length) = true := by simp; omega
              obtain ⟨b, off, u, rfl, _, hu, hR⟩ := (okBB.grow HD.out hlw).at_ hlt
              obtain ⟨A2, c2, rfl, _, _⟩ := hR.shape
              have HG := Lib.hid (show data.getD k [] = data[k] by simp [List.getD, List.getElem?_eq_getElem hlt])
              clear hlw
              by_cases hl4 : data[k].length = 4
              · have e11 : ((data[k].length : Int) != 4) = false := by simp; omega
                have HL := Lib.hid hl4
                clear hl4
                go_wp2
                go_roundw
                case rel => exact ⟨k + 1, by omega, by go_num, fun j hj => by rcases Nat.lt_succ_iff_lt_or_eq.1 hj with h | rfl; exact HP.out j h; rw [HG.out, HL.out], HLW.out⟩
                case measure => simp [intOf]; omega
              · have e11 : ((data[k].length : Int) != 4) = true := by simp; omega
                clear hl4
                go_wp2
                go_ret
                exact ⟨rfl, hbw⟩
            · obtain rfl : k = data.length := by omega
              by_cases hd4 : data.length = 4
              rotate_left
              · have e12 : ((data.length : Int) != 4) = true := by simp; omega
                clear hd4 hlw hk hlt
                go_wp2
                go_ret
                exact ⟨rfl, hbw⟩
              have hB4 : Blocks4 data := fun b hb => by
                obtain ⟨j, hj, rfl⟩ := List.getElem_of_mem hb
                have := HP.out j hj
                simpa [List.getD, List.getElem?_eq_getElem hj] using this
              have hdx := okBB.grow HD.out hlw
              rw [hd4] at hdx ⊢
              have HB4 := Lib.hid hB4
              have HD4 := Lib.hid hd4
              clear hlw hB4 hk hlt hd4
              go_wp2_with fail
              refine (stripe_Make data s _ _ _ hdx (by omega) (by rw [HD4.out]; decide) HB4.out).mono ?_
              rintro e wm ⟨vm, rfl, hvm, hbm⟩
              have hrm := hvm.toRd okB (R' := RdB) (fun h => h) okB
              have hdy := okBB.grow hdx hbm
              have hbm' := hbw.trans (hbm.mono hbw.size)
              clear hvm hdx hbm hbw
              go_wp2_with fail
              refine (ref_Make data s _ _ _ hdy (by omega) (by rw [HD4.out]; decide) HB4.out).mono ?_
              rintro e wn ⟨vn, rfl, hvn, hbn⟩
              have hrn := hvn.toRd okB (R' := RdB) (fun h => h) okB
              have hrm2 := okBB.grow hrm hbn
              have hbn' := hbm'.trans (hbn.mono hbm'.size)
              clear hvn hrm hbn hbm' hdy
              go_wp2_with fail
              refine (ref_SameBytes _ _ _ _ (fun _ => True) _ (okBB.mono hrm2 fun _ _ => trivial) (okBB.mono hrn fun _ _ => trivial)).mono ?_
              rintro e wo ⟨rfl, hbo⟩
              rw [beq_self_eq_true]
              have hbe := hbn'.trans (hbo.mono hbn'.size)
              clear hrm2 hrn hbo hbn'
              go_wp2
              go_ret
              exact ⟨rfl, hbe⟩
namespace stripeTellsDone
open Go.ChangeShapes Go.WideShapes Go.ChangeAt Go.RowKit M
open Go.ChangeMaps (open_string shut_string)
set_option linter.unusedVariables false
set_option maxRecDepth 100000 in
theorem lifted (os : Os) (started : os.Started) (H : Type) (enc : TypeId × Value → H) :
    ReturnsInHanded {} Try.checked os 6 .any (Rows.stripeTellsSpec.pre6 enc Try.prog Try.f6 Rows.stripeTellsRow.domain false) (Rows.stripeTellsSpec.post enc Try.prog Try.f6 false true false false) := by
  refine returnsInHanded_of_change (C := Try.checked) own started (by kernel_rfl) Try.func6
    (ChangeSpec.witness6 (enc := enc) (C := Try.checked) false ⟨#[], #[.slice none 0 0, .int .i64 0, .slice none 0 0, .slice none 0 0], []⟩ 8 (by kernel_rfl) (by kernel_rfl) (by kernel_rfl) (by kernel_rfl)) ?_
  intro W base args ds gs before hval0 hW hcnd _
  have hval : ∀ (j : Nat) t v, Try.f6.params[j]? = some t → args[j]? = some v → Value.okWide Try.prog W .any base t v := hval0
  have hW' := hW
  obtain ⟨p, q, hA0, hV, rfl, hfz, hnd⟩ := hW
  have hA : DataW.TrodAll enc Try.prog W 0 (fun _ => true) true Try.f6.params.toList args.toList ds p := hA0
  rw [Try.params6] at hA hval
  obtain ⟨v0, vs0, d0, ds0, p0, q0, hargs, rfl, rfl, h0, r0⟩ := trodAll_cons hA
  obtain ⟨v1, vs1, d1, ds1, p1, q1, rfl, rfl, rfl, h1, r1⟩ := trodAll_cons r0
  obtain ⟨v2, vs2, d2, ds2, p2, q2, rfl, rfl, rfl, h2, r2⟩ := trodAll_cons r1
  obtain ⟨v3, vs3, d3, ds3, p3, q3, rfl, rfl, rfl, h3, r3⟩ := trodAll_cons r2
  obtain ⟨rfl, rfl, rfl⟩ := trodAll_nil r3
  obtain rfl : args = #[v0, v1, v2, v3] := by cases args; simp_all
  obtain ⟨rfl, rfl⟩ := trodVars_none hV
  obtain ⟨a0, len0, cap0, rfl⟩ := okWide_slice Try.underlying37 (hval 0 37 v0 rfl rfl)
  have k0 := h0
  have lt0 : ∀ x ∈ p0, x.block < W.heap.size := by obtain ⟨m, hm⟩ := k0; exact DataW.trod_lt m _ _ _ hm
  obtain ⟨fuel0, hf0⟩ := h0
  obtain ⟨b0, w0, l0⟩ := open_steps hf0
  obtain ⟨a1, rfl, rfl, rfl, w1⟩ := open_int Try.underlying3 (hval 1 3 v1 rfl rfl) h1
  have b1 := bounds_i64 w1
  obtain ⟨a2, len2, cap2, rfl⟩ := okWide_slice Try.underlying22 (hval 2 22 v2 rfl rfl)
  have k2 := h2
  have lt2 : ∀ x ∈ p2, x.block < W.heap.size := by obtain ⟨m, hm⟩ := k2; exact DataW.trod_lt m _ _ _ hm
  obtain ⟨fuel2, hf2⟩ := h2
  obtain ⟨b2, w2, l2⟩ := M.open_BB Try.underlying22 (by kernel_rfl) Try.underlying23 Try.underlying5 (by kernel_rfl) hf2
  obtain ⟨a3, len3, cap3, rfl⟩ := okWide_slice Try.underlying22 (hval 3 22 v3 rfl rfl)
  have k3 := h3
  have lt3 : ∀ x ∈ p3, x.block < W.heap.size := by obtain ⟨m, hm⟩ := k3; exact DataW.trod_lt m _ _ _ hm
  obtain ⟨fuel3, hf3⟩ := h3
  obtain ⟨b3, w3, l3⟩ := M.open_BB Try.underlying22 (by kernel_rfl) Try.underlying23 Try.underlying5 (by kernel_rfl) hf3
  clear hA0 hval0
  refine (stripeTells_walk b0 _ a1 b2 _ b3 _ W w0 b1.1 b1.2 w2 w3).mono fun e W' ⟨he, bel⟩ => ?_
  subst he
  exact ⟨_, rfl, _, _, _, [], _, [], hW', trodAll_mk1 (shut_bool Try.underlying4 _), (trodAll_cons_mk (Below.trod laidOut (by kernel_rfl) (of_decide_eq_true (by kernel_rfl)) k0 bel lt0) (trodAll_cons_mk (shut_int Try.underlying3 w1) (trodAll_cons_mk (Below.trod laidOut (by kernel_rfl) (of_decide_eq_true (by kernel_rfl)) k2 bel lt2) (trodAll_cons_mk (Below.trod laidOut (by kernel_rfl) (of_decide_eq_true (by kernel_rfl)) k3 bel lt3) trodAll_mk0)))), rfl, bel.frame _, fun h => by cases h⟩
theorem over : Rows.stripeTellsRow.holds Try.pinned (OpenSpec.ofChange Rows.stripeTellsSpec) :=
  OpenClaim.holds_of_wide 6 Try.f6 rfl rfl rfl rfl rfl rfl rfl ⟨rfl, rfl, rfl, rfl, rfl⟩ rfl rfl rfl rfl rfl (by kernel_rfl) Try.func6 (by kernel_rfl)
    (of_decide_eq_true (by kernel_rfl)) (by unfold Func.isWrapper; first | (rw [if_pos (by decide +kernel)]; kernel_rfl) | (rw [if_neg (by decide +kernel)]; exact ⟨rfl, rfl⟩))
    (fun os started H enc _ => lifted os started H enc)
/-- The statement. -/
theorem proved : Rows.StripeTellsSaid := over
end stripeTellsDone
end Go.Proofs.Ytlbnkoahkfhimaa

/- Chapter 5: ModelApart holds for every input: the call returns true, and each argument reads behind it as it read before. -/
import Derived.Test.YtlbnkoahkfhimaaL5
import Derived.Test.YtlbnkoahkfhimaaOpen2
import Derived.Test.YtlbnkoahkfhimaaPure6
namespace Go.Proofs.Ytlbnkoahkfhimaa
set_option linter.unusedVariables false
open Go Go.RowKit M
theorem right_len' {l : List Bs} (h : rightB l = true) : l.length = 9 := by unfold rightB at h; simp at h; exact h.2
set_option maxHeartbeats 400000 in
theorem law5_names (d : Deed) (v : Value) (F : Fp) (w : World) (h : RdD w F v d) (n : Nat) :
    Calls Try.prog 25 #[v, .int .i64 n] w fun e w' => e = .returned (.bool (namesB d n)) ∧ Below w.heap.size w w' := by
  obtain ⟨dv, rfl, hd⟩ := h
  obtain ⟨A, c, rfl, _, _⟩ := hd.shape
  have hnb := Lib.hid (below_alloc w (.cells #[.int .i64 d.kind, .int .i64 d.n, .int .i64 d.m, .slice A d.data.length c] 25))
  clear hd
  unfold namesB
  cases e1 : ((n : Int) == d.n) <;> cases e2 : (d.kind == 2) <;> cases e3 : ((n : Int) == d.m)
  all_goals
    go_enter Try.func25, Try.ntmps25
    go_wp2
    go_ret
    exact ⟨rfl, hnb.out⟩
set_option maxRecDepth 100000 in
set_option maxHeartbeats 3200000 in
theorem modelApart_walk (l : List Bs) (vl : Value) (a : Deed) (va : Value) (b : Deed) (vb : Value) (w : World) (hl : RdBB w (fun _ => True) vl l) (ha : RdD w (fun _ => True) va a) (hb : RdD w (fun _ => True) vb b) :
    Calls Try.prog 4 #[vl, va, vb] w fun e w' => e = .returned (.bool true) ∧ Below w.heap.size w w' := by
  obtain ⟨av, rfl, hav⟩ := ha
  obtain ⟨bv, rfl, hbv⟩ := hb
  obtain ⟨Aa, ca, rfl, _, _⟩ := hav.shape
  obtain ⟨Ab, cb, rfl, _, _⟩ := hbv.shape
  obtain ⟨Al, cl, rfl, _, _⟩ := hl.shape
  have hnA := boxed4_new w (.int .i64 a.kind) (.int .i64 a.n) (.int .i64 a.m) (.slice Aa a.data.length ca) 25
  have hnb0 := below_alloc w (.cells #[.int .i64 a.kind, .int .i64 a.n, .int .i64 a.m, .slice Aa a.data.length ca] 25)
  have hnB := boxed4_new (w.alloc (.cells #[.int .i64 a.kind, .int .i64 a.n, .int .i64 a.m, .slice Aa a.data.length ca] 25)) (.int .i64 b.kind) (.int .i64 b.n) (.int .i64 b.m) (.slice Ab b.data.length cb) 25
  have hnb1 := below_alloc (w.alloc (.cells #[.int .i64 a.kind, .int .i64 a.n, .int .i64 a.m, .slice Aa a.data.length ca] 25)) (.cells #[.int .i64 b.kind, .int .i64 b.n, .int .i64 b.m, .slice Ab b.data.length cb] 25)
  have hnA1 := Lib.hid (hnA.keep hnb1 hnA.lt)
  have hnB1 := Lib.hid hnB
  have hnb := Lib.hid (hnb0.trans (hnb1.mono hnb0.size))
  rw [alloc_size] at hnB1
  clear hnA hnB hnb0 hnb1
  go_enter Try.func4, Try.ntmps4
  go_wp2_with fail
  generalize (w.alloc (.cells #[.int .i64 a.kind, .int .i64 a.n, .int .i64 a.m, .slice Aa a.data.length ca] 25)).alloc (.cells #[.int .i64 b.kind, .int .i64 b.n, .int .i64 b.m, .slice Ab b.data.length cb] 25) = w1 at *
  refine (law5_alive w1).mono ?_
  rintro e w2 ⟨rfl, hl2⟩
  replace hl := okBB.grow (okBB.grow hl hnb.out) hl2
  replace hav := okB.grow (okB.grow hav hnb.out) hl2
  replace hbv := okB.grow (okB.grow hbv hnb.out) hl2
  have hxa := Lib.hid (hnA1.out.keep hl2 hnA1.out.lt)
  have hxb := Lib.hid (hnB1.out.keep hl2 hnB1.out.lt)
  replace hl2 := hnb.out.trans (hl2.mono hnb.out.size)
  clear hnA1 hnB1 hnb
  obtain ⟨k0, k1, k2, k3, _⟩ := id hxa.out
  obtain ⟨j0, j1, j2, j3, _⟩ := id hxb.out
  by_cases hrl : rightB l = true
  rotate_left
  · replace hrl : rightB l = false := by simpa using hrl
    go_wp2_with fail
    refine (ref_RightBlocks l _ _ _ hl).mono ?_
    rintro e w2 ⟨rfl, rfl⟩
    rw [hrl]
    go_wp2
    go_ret
    exact ⟨rfl, hl2⟩
  have HLen := Lib.hid (right_len' hrl)
  go_wp2_with fail
  refine (ref_RightBlocks l _ _ _ hl).mono ?_
  rintro e w3 ⟨rfl, rfl⟩
  rw [hrl]
  clear hrl
  go_wp2_with fail
  refine (model_Wrong a _ _ _ ⟨_, rfl, hav⟩).mono ?_
  rintro e w3 ⟨rfl, hb3⟩
  replace hl := okBB.grow hl hb3
  replace hav := okB.grow hav hb3
  replace hbv := okB.grow hbv hb3
  replace hxa := Lib.hid (hxa.out.keep hb3 hxa.out.lt)
  replace hxb := Lib.hid (hxb.out.keep hb3 hxb.out.lt)
  replace hl2 := hl2.trans (hb3.mono hl2.size)
  clear k0 k1 k2 k3 j0 j1 j2 j3 hb3
  obtain ⟨k0, k1, k2, k3, _⟩ := id hxa.out
  obtain ⟨j0, j1, j2, j3, _⟩ := id hxb.out
  by_cases hra : wrongI a = 0
  rotate_left
  · have hne : (wrongI a != 0) = true := by simpa using hra
    clear hra
    go_wp2
    go_ret
    exact ⟨rfl, hl2⟩
  have HRa := Lib.hid hra
  rw [hra]
  clear hra
  go_wp2_with fail
  refine (model_Wrong b _ _ _ ⟨_, rfl, hbv⟩).mono ?_
  rintro e w3 ⟨rfl, hb3⟩
  replace hl := okBB.grow hl hb3
  replace hav := okB.grow hav hb3
  replace hbv := okB.grow hbv hb3
  replace hxa := Lib.hid (hxa.out.keep hb3 hxa.out.lt)
  replace hxb := Lib.hid (hxb.out.keep hb3 hxb.out.lt)
  replace hl2 := hl2.trans (hb3.mono hl2.size)
  clear k0 k1 k2 k3 j0 j1 j2 j3 hb3
  by_cases hrb : wrongI b = 0
  rotate_left
  · have hne : (wrongI b != 0) = true := by simpa using hrb
    clear hrb
    go_wp2
    go_ret
    exact ⟨rfl, hl2⟩
  have HRb := Lib.hid hrb
  rw [hrb]
  clear hrb
  go_wp2_with fail
  go_loopw [27] (fun i wr => ∃ k : Nat, k ≤ 9 ∧ i = .int .i64 k ∧ (∀ j, j < k → (namesB a j && namesB b j) = false) ∧ Below w3.heap.size w3 wr) (fun i _ => 9 - (intOf i).toNat)
  case atStart => exact ⟨0, Nat.zero_le _, rfl, fun j hj => by omega, Below.refl _ _⟩
  case round =>
    obtain ⟨k, hk, rfl, hpre, hlw⟩ := hrel
    have HP := Lib.hid hpre
    clear hpre
    have hxa' := hxa.out.keep hlw hxa.out.lt
    have hxb' := hxb.out.keep hlw hxb.out.lt
    have hlw0 := hl2.trans (hlw.mono hl2.size)
    by_cases hlt : k < 9
    · obtain ⟨k0, k1, k2, k3, _⟩ := id hxa'
      go_wp2_with fail
      refine (law5_names a _ _ _ ⟨_, rfl, okB.grow hav hlw⟩ k).mono ?_
      rintro e w4 ⟨rfl, hb4⟩
      replace hxb' := hxb'.keep hb4 hxb'.lt
      clear k0 k1 k2 k3 hxa'
      cases ea : namesB a k with
      | false =>
        have HE := Lib.hid ea
        clear ea
        go_wp2_with fail
        go_roundw
        case rel => exact ⟨k + 1, by omega, by go_num, fun j hj => by rcases Nat.lt_succ_iff_lt_or_eq.1 hj with h | rfl; exact HP.out j h; rw [HE.out]; rfl, hlw.trans (hb4.mono hlw.size)⟩
        case measure => simp [intOf]; omega
      | true =>
        have HE := Lib.hid ea
        clear ea
        obtain ⟨j0, j1, j2, j3, _⟩ := id hxb'
        go_wp2_with fail
        refine (law5_names b _ _ _ ⟨_, rfl, okB.grow (okB.grow hbv hlw) hb4⟩ k).mono ?_
        rintro e w5 ⟨rfl, hb5⟩
        replace hb5 := hb4.trans (hb5.mono hb4.size)
        clear j0 j1 j2 j3 hb4 hxb'
        cases eb : namesB b k with
        | false =>
          have HF := Lib.hid eb
          clear eb
          go_wp2_with fail
          go_roundw
          case rel => exact ⟨k + 1, by omega, by go_num, fun j hj => by rcases Nat.lt_succ_iff_lt_or_eq.1 hj with h | rfl; exact HP.out j h; rw [HF.out]; simp, hlw.trans (hb5.mono hlw.size)⟩
          case measure => simp [intOf]; omega
        | true =>
          go_wp2_with fail
          go_ret
          exact ⟨rfl, hlw0.trans (hb5.mono hlw0.size)⟩
    · obtain rfl : k = 9 := by omega
      have HS := Lib.hid (doD_apart HRa.out HRb.out HLen.out HP.out)
      have HLa := Lib.hid (doD_len l a HLen.out)
      have HLb := Lib.hid (doD_len l b HLen.out)
      replace hl := okBB.grow hl hlw
      replace hav := okB.grow hav hlw
      replace hbv := okB.grow hbv hlw
      replace hxa := Lib.hid hxa'
      replace hxb := Lib.hid hxb'
      clear hxa' hxb' hlw hl2 HP
      go_wp2_with fail
      refine region_list [Cv (.slice Al l.length cl), Cv (.agg #[.int .i64 a.kind, .int .i64 a.n, .int .i64 a.m, .slice Aa a.data.length ca]), Rv RdBB (doD l a), Cv (.agg #[.int .i64 b.kind, .int .i64 b.n, .int .i64 b.m, .slice Ab b.data.length cb]), Rv RdBB (doD (doD l a) b), Cv (.slice Al l.length cl), Cv (.agg #[.int .i64 b.kind, .int .i64 b.n, .int .i64 b.m, .slice Ab b.data.length cb]), Rv RdBB (doD l b), Cv (.agg #[.int .i64 a.kind, .int .i64 a.n, .int .i64 a.m, .slice Aa a.data.length ca]), Rv RdBB (doD (doD l b) a), Rv RdBB (doD (doD l a) b), Rv RdBB (doD (doD l b) a)] (by kernel_rfl) (by kernel_rfl) (by kernel_rfl) ?_ ?_ ?_
      · repeat (first | exact trivial | refine ⟨mC _, ?_⟩ | refine ⟨mR okB _, ?_⟩ | refine ⟨mT, ?_⟩ | refine ⟨mR okBB _, ?_⟩ | refine ⟨mR okBBB _, ?_⟩)
      · simp only [StepsL]
        refine ⟨?_, ?_, ?_, ?_, ?_, ?_, ?_, ?_, ?_, ?_, ?_, ?_, trivial⟩
        · intro ys wx hw hd K hK
          simp only [putL, Act.put, List.setIfInBounds_toArray, List.set_cons_zero, List.set_cons_succ, Nat.zero_add, Nat.reduceAdd] at hK ⊢
          rw [if_pos (by rfl)]
          go_simp
          exact hK _ _ (Below.refl _ _) rfl
        · intro ys wx hw hd K hK
          simp only [putL, Act.put, List.setIfInBounds_toArray, List.set_cons_zero, List.set_cons_succ, Nat.zero_add, Nat.reduceAdd] at hK ⊢
          rw [if_pos (by rfl)]
          obtain ⟨kb0, kb1, kb2, kb3, _⟩ := hxa.out.keep hw hxa.out.lt
          go_simp
          exact hK _ _ (Below.refl _ _) rfl
        · intro ys wx hw hd K hK
          have e0 : ys 0 = _ := hd 0 (by decide)
          have e1 : ys 1 = _ := hd 1 (by decide)
          simp only [putL, Act.put, List.setIfInBounds_toArray, List.set_cons_zero, List.set_cons_succ, Nat.zero_add, Nat.reduceAdd, e0, e1] at hK ⊢
          rw [if_pos (by rfl)]
          go_simp
          refine (model_Do l a _ _ _ _ (okBB.grow hl hw) ⟨_, rfl, okB.grow hav hw⟩ HLen.out HRa.out).mono ?_
          rintro e w' ⟨v', rfl, hv', hb'⟩
          exact hK _ _ hb' (hv'.toRd_ okB)
        · intro ys wx hw hd K hK
          simp only [putL, Act.put, List.setIfInBounds_toArray, List.set_cons_zero, List.set_cons_succ, Nat.zero_add, Nat.reduceAdd] at hK ⊢
          rw [if_pos (by rfl)]
          obtain ⟨kb0, kb1, kb2, kb3, _⟩ := hxb.out.keep hw hxb.out.lt
          go_simp
          exact hK _ _ (Below.refl _ _) rfl
        · intro ys wx hw hd K hK
          have k2 := hd 2 (by decide)
          change (Rv RdBB (doD l a)) wx (ys 2) at k2
          have e3 : ys 3 = _ := hd 3 (by decide)
          simp only [putL, Act.put, List.setIfInBounds_toArray, List.set_cons_zero, List.set_cons_succ, Nat.zero_add, Nat.reduceAdd, e3] at hK ⊢
          rw [if_pos (by rfl)]
          go_simp
          refine (model_Do (doD l a) b _ _ (fun _ => True) _ (okBB.mono k2 fun _ _ => trivial) ⟨_, rfl, okB.grow hbv hw⟩ HLa.out HRb.out).mono ?_
          rintro e w' ⟨v', rfl, hv', hb'⟩
          exact hK _ _ hb' (hv'.toRd_ okB)
        · intro ys wx hw hd K hK
          simp only [putL, Act.put, List.setIfInBounds_toArray, List.set_cons_zero, List.set_cons_succ, Nat.zero_add, Nat.reduceAdd] at hK ⊢
          rw [if_pos (by rfl)]
          go_simp
          exact hK _ _ (Below.refl _ _) rfl
        · intro ys wx hw hd K hK
          simp only [putL, Act.put, List.setIfInBounds_toArray, List.set_cons_zero, List.set_cons_succ, Nat.zero_add, Nat.reduceAdd] at hK ⊢
          rw [if_pos (by rfl)]
          obtain ⟨kb0, kb1, kb2, kb3, _⟩ := hxb.out.keep hw hxb.out.lt
          go_simp
          exact hK _ _ (Below.refl _ _) rfl
        · intro ys wx hw hd K hK
          have e5 : ys 5 = _ := hd 5 (by decide)
          have e6 : ys 6 = _ := hd 6 (by decide)
          simp only [putL, Act.put, List.setIfInBounds_toArray, List.set_cons_zero, List.set_cons_succ, Nat.zero_add, Nat.reduceAdd, e5, e6] at hK ⊢
          rw [if_pos (by rfl)]
          go_simp
          refine (model_Do l b _ _ _ _ (okBB.grow hl hw) ⟨_, rfl, okB.grow hbv hw⟩ HLen.out HRb.out).mono ?_
          rintro e w' ⟨v', rfl, hv', hb'⟩
          exact hK _ _ hb' (hv'.toRd_ okB)
        · intro ys wx hw hd K hK
          simp only [putL, Act.put, List.setIfInBounds_toArray, List.set_cons_zero, List.set_cons_succ, Nat.zero_add, Nat.reduceAdd] at hK ⊢
          rw [if_pos (by rfl)]
          obtain ⟨kb0, kb1, kb2, kb3, _⟩ := hxa.out.keep hw hxa.out.lt
          go_simp
          exact hK _ _ (Below.refl _ _) rfl
        · intro ys wx hw hd K hK
          have k7 := hd 7 (by decide)
          change (Rv RdBB (doD l b)) wx (ys 7) at k7
          have e8 : ys 8 = _ := hd 8 (by decide)
          simp only [putL, Act.put, List.setIfInBounds_toArray, List.set_cons_zero, List.set_cons_succ, Nat.zero_add, Nat.reduceAdd, e8] at hK ⊢
          rw [if_pos (by rfl)]
          go_simp
          refine (model_Do (doD l b) a _ _ (fun _ => True) _ (okBB.mono k7 fun _ _ => trivial) ⟨_, rfl, okB.grow hav hw⟩ HLb.out HRa.out).mono ?_
          rintro e w' ⟨v', rfl, hv', hb'⟩
          exact hK _ _ hb' (hv'.toRd_ okB)
        · intro ys wx hw hd K hK
          have k4 := hd 4 (by decide)
          change (Rv RdBB (doD (doD l a) b)) wx (ys 4) at k4
          simp only [putL, Act.put, List.setIfInBounds_toArray, List.set_cons_zero, List.set_cons_succ, Nat.zero_add, Nat.reduceAdd] at hK ⊢
          rw [if_pos (by rfl)]
          go_simp
          exact hK _ _ (Below.refl _ _) k4
        · intro ys wx hw hd K hK
          have k9 := hd 9 (by decide)
          change (Rv RdBB (doD (doD l b) a)) wx (ys 9) at k9
          simp only [putL, Act.put, List.setIfInBounds_toArray, List.set_cons_zero, List.set_cons_succ, Nat.zero_add, Nat.reduceAdd] at hK ⊢
          rw [if_pos (by rfl)]
          go_simp
          exact hK _ _ (Below.refl _ _) k9
      · intro ys w' hl' hV
        have k10 := hV 10 (by decide)
        change (Rv RdBB (doD (doD l a) b)) w' (ys 10) at k10
        have k11 := hV 11 (by decide)
        change (Rv RdBB (doD (doD l b) a)) w' (ys 11) at k11
        clear hV
        simp only [putL, Act.put, List.setIfInBounds_toArray, List.set_cons_zero, List.set_cons_succ, Nat.zero_add, Nat.reduceAdd]
        have hl4 := hlw0.trans (hl'.mono hlw0.size)
        replace hl := okBB.grow hl hl'
        replace hav := okB.grow hav hl'
        replace hbv := okB.grow hbv hl'
        replace hxa := Lib.hid (hxa.out.keep hl' hxa.out.lt)
        replace hxb := Lib.hid (hxb.out.keep hl' hxb.out.lt)
        change Rv RdBB (doD (doD l a) b) w' (ys 10) at k10
        have k10' : RdBB w' (fun k => k < w'.heap.size) (ys 10) (doD (doD l a) b) := k10
        have k11' : RdBB w' (fun k => k < w'.heap.size) (ys 11) (doD (doD l b) a) := k11
        clear k10 k11
        generalize ys 10 = vx at *
        generalize ys 11 = vy at *
        have k10 := k10'
        have k11 := k11'
        clear k10' k11'
        have HLab := Lib.hid (doD_len (doD l a) b HLa.out)
        have HLba := Lib.hid (doD_len (doD l b) a HLb.out)
        obtain ⟨bx, ox, cx, rfl, _, _, _, _⟩ := k10.form (by rw [HLab.out]; decide)
        obtain ⟨by_, oy, cy, rfl, _, _, _, _⟩ := k11.form (by rw [HLba.out]; decide)
        obtain ⟨bl, ol, cl', hAl, _, _, _, _⟩ := hl.form (by rw [HLen.out]; decide)
        injection hAl with hA1 _ hA2
        subst hA1
        subst hA2
        have hab := HLab.out
        have hba := HLba.out
        have hll := HLen.out
        rw [hab] at k10 ⊢
        rw [hba] at k11 ⊢
        rw [hll] at hl ⊢
        have HL3 := Lib.hid hl
        clear hab hba hll hl' hlw0 hl
        go_wp2_with fail
        go_loopw [51] (fun i wr => ∃ k : Nat, k ≤ 9 ∧ i = .int .i64 k ∧ Below w'.heap.size w' wr) (fun i _ => 9 - (intOf i).toNat)
        case atStart => exact ⟨0, Nat.zero_le _, rfl, Below.refl _ _⟩
        case round =>
          obtain ⟨k, hk, rfl, hlw2⟩ := hrel
          have hxa2 := Lib.hid (hxa.out.keep hlw2 hxa.out.lt)
          have hxb2 := Lib.hid (hxb.out.keep hlw2 hxb.out.lt)
          have hav2 := Lib.hid (okB.grow hav hlw2)
          have hbv2 := Lib.hid (okB.grow hbv hlw2)
          by_cases hlt : k < 9
          · have hb9 : decide ((k : Int) < 9) = true := by simp; omega
            cases ea : namesB a k with
            | true =>
              have HEa := Lib.hid ea
              clear ea
              go_wp2_with fail
              refine region_list [Cv (.func (.func 25) #[] #[]), Cv (.agg #[.int .i64 a.kind, .int .i64 a.n, .int .i64 a.m, .slice Aa a.data.length ca]), Cv (.int .i64 k), Cv (.bool true), Cv (.bool false), Cv (.bool false), Cv (undef), Cv (undef), Cv (undef), Cv (undef), Cv (undef), Cv (.bool false), Cv (.bool false), Cv (undef), Cv (undef), Cv (undef), Cv (undef), Cv (undef), Cv (undef), Cv (undef), Cv (undef), Cv (undef), Cv (undef), Cv (undef), Cv (.bool false)] (by kernel_rfl) (by kernel_rfl) (by kernel_rfl) ?_ ?_ ?_
              · repeat (first | exact trivial | refine ⟨mC _, ?_⟩ | refine ⟨mR okB _, ?_⟩ | refine ⟨mT, ?_⟩ | refine ⟨mR okBB _, ?_⟩ | refine ⟨mR okBBB _, ?_⟩)
              · simp only [StepsL]
                refine ⟨?_, ?_, ?_, ?_, ?_, ?_, ?_, ?_, ?_, ?_, ?_, ?_, ?_, ?_, ?_, ?_, ?_, ?_, ?_, ?_, ?_, ?_, ?_, ?_, ?_, trivial⟩
                · intro ys wx hw hd K hK
                  simp only [putL, Act.put, List.setIfInBounds_toArray, List.set_cons_zero, List.set_cons_succ, Nat.zero_add, Nat.reduceAdd] at hK ⊢
                  rw [if_pos (by rfl)]
                  go_simp
                  exact hK _ _ (Below.refl _ _) rfl
                · intro ys wx hw hd K hK
                  simp only [putL, Act.put, List.setIfInBounds_toArray, List.set_cons_zero, List.set_cons_succ, Nat.zero_add, Nat.reduceAdd] at hK ⊢
                  rw [if_pos (by rfl)]
                  obtain ⟨kb0, kb1, kb2, kb3, _⟩ := hxa2.out.keep hw hxa2.out.lt
                  go_simp
                  exact hK _ _ (Below.refl _ _) rfl
                · intro ys wx hw hd K hK
                  simp only [putL, Act.put, List.setIfInBounds_toArray, List.set_cons_zero, List.set_cons_succ, Nat.zero_add, Nat.reduceAdd] at hK ⊢
                  rw [if_pos (by rfl)]
                  go_simp
                  exact hK _ _ (Below.refl _ _) rfl
                · intro ys wx hw hd K hK
                  have e0 : ys 0 = _ := hd 0 (by decide)
                  have e1 : ys 1 = _ := hd 1 (by decide)
                  have e2 : ys 2 = _ := hd 2 (by decide)
                  simp only [putL, Act.put, List.setIfInBounds_toArray, List.set_cons_zero, List.set_cons_succ, Nat.zero_add, Nat.reduceAdd, e0, e1, e2] at hK ⊢
                  rw [if_pos (by rfl)]
                  go_simp
                  refine (law5_names a _ _ _ ⟨_, rfl, okB.grow hav2.out hw⟩ k).mono ?_
                  rintro e w' ⟨rfl, hb'⟩
                  exact hK _ _ hb' (by rw [HEa.out]; rfl)
                · intro ys wx hw hd K hK
                  have e3 : ys 3 = _ := hd 3 (by decide)
                  simp only [putL, Act.put, List.setIfInBounds_toArray, List.set_cons_zero, List.set_cons_succ, Nat.zero_add, Nat.reduceAdd, e3] at hK ⊢
                  rw [if_pos (by rfl)]
                  go_simp
                  exact hK _ _ (Below.refl _ _) rfl
                · intro ys wx hw hd K hK
                  have e4 : ys 4 = _ := hd 4 (by decide)
                  simp only [putL, Act.put, List.setIfInBounds_toArray, List.set_cons_zero, List.set_cons_succ, Nat.zero_add, Nat.reduceAdd, e4] at hK ⊢
                  rw [if_pos (by rfl)]
                  go_simp
                  exact hK _ _ (Below.refl _ _) rfl
                · intro ys wx hw hd K hK
                  have e5 : ys 5 = _ := hd 5 (by decide)
                  simp only [putL, Act.put, List.setIfInBounds_toArray, List.set_cons_zero, List.set_cons_succ, Nat.zero_add, Nat.reduceAdd, e5] at hK ⊢
                  rw [if_neg (by exact Bool.false_ne_true)]
                  exact hK _ _ (Below.refl _ _) rfl
                · intro ys wx hw hd K hK
                  have e5 : ys 5 = _ := hd 5 (by decide)
                  simp only [putL, Act.put, List.setIfInBounds_toArray, List.set_cons_zero, List.set_cons_succ, Nat.zero_add, Nat.reduceAdd, e5] at hK ⊢
                  rw [if_neg (by exact Bool.false_ne_true)]
                  exact hK _ _ (Below.refl _ _) rfl
                · intro ys wx hw hd K hK
                  have e5 : ys 5 = _ := hd 5 (by decide)
                  simp only [putL, Act.put, List.setIfInBounds_toArray, List.set_cons_zero, List.set_cons_succ, Nat.zero_add, Nat.reduceAdd, e5] at hK ⊢
                  rw [if_neg (by exact Bool.false_ne_true)]
                  exact hK _ _ (Below.refl _ _) rfl
                · intro ys wx hw hd K hK
                  have e5 : ys 5 = _ := hd 5 (by decide)
                  have e6 : ys 6 = _ := hd 6 (by decide)
                  have e7 : ys 7 = _ := hd 7 (by decide)
                  have e8 : ys 8 = _ := hd 8 (by decide)
                  simp only [putL, Act.put, List.setIfInBounds_toArray, List.set_cons_zero, List.set_cons_succ, Nat.zero_add, Nat.reduceAdd, e5, e6, e7, e8] at hK ⊢
                  rw [if_neg (by exact Bool.false_ne_true)]
                  exact hK _ _ (Below.refl _ _) rfl
                · intro ys wx hw hd K hK
                  have e5 : ys 5 = _ := hd 5 (by decide)
                  have e9 : ys 9 = _ := hd 9 (by decide)
                  simp only [putL, Act.put, List.setIfInBounds_toArray, List.set_cons_zero, List.set_cons_succ, Nat.zero_add, Nat.reduceAdd, e5, e9] at hK ⊢
                  rw [if_neg (by exact Bool.false_ne_true)]
                  exact hK _ _ (Below.refl _ _) rfl
                · intro ys wx hw hd K hK
                  have e5 : ys 5 = _ := hd 5 (by decide)
                  have e10 : ys 10 = _ := hd 10 (by decide)
                  simp only [putL, Act.put, List.setIfInBounds_toArray, List.set_cons_zero, List.set_cons_succ, Nat.zero_add, Nat.reduceAdd, e5, e10] at hK ⊢
                  rw [if_pos (by rfl)]
                  go_simp
                  exact hK _ _ (Below.refl _ _) rfl
                · intro ys wx hw hd K hK
                  have e11 : ys 11 = _ := hd 11 (by decide)
                  simp only [putL, Act.put, List.setIfInBounds_toArray, List.set_cons_zero, List.set_cons_succ, Nat.zero_add, Nat.reduceAdd, e11] at hK ⊢
                  rw [if_pos (by rfl)]
                  go_simp
                  exact hK _ _ (Below.refl _ _) rfl
                · intro ys wx hw hd K hK
                  have e12 : ys 12 = _ := hd 12 (by decide)
                  simp only [putL, Act.put, List.setIfInBounds_toArray, List.set_cons_zero, List.set_cons_succ, Nat.zero_add, Nat.reduceAdd, e12] at hK ⊢
                  rw [if_neg (by exact Bool.false_ne_true)]
                  exact hK _ _ (Below.refl _ _) rfl
                · intro ys wx hw hd K hK
                  have e12 : ys 12 = _ := hd 12 (by decide)
                  simp only [putL, Act.put, List.setIfInBounds_toArray, List.set_cons_zero, List.set_cons_succ, Nat.zero_add, Nat.reduceAdd, e12] at hK ⊢
                  rw [if_neg (by exact Bool.false_ne_true)]
                  exact hK _ _ (Below.refl _ _) rfl
                · intro ys wx hw hd K hK
                  have e12 : ys 12 = _ := hd 12 (by decide)
                  have e13 : ys 13 = _ := hd 13 (by decide)
                  have e14 : ys 14 = _ := hd 14 (by decide)
                  simp only [putL, Act.put, List.setIfInBounds_toArray, List.set_cons_zero, List.set_cons_succ, Nat.zero_add, Nat.reduceAdd, e12, e13, e14] at hK ⊢
                  rw [if_neg (by exact Bool.false_ne_true)]
                  exact hK _ _ (Below.refl _ _) rfl
                · intro ys wx hw hd K hK
                  have e12 : ys 12 = _ := hd 12 (by decide)
                  have e15 : ys 15 = _ := hd 15 (by decide)
                  simp only [putL, Act.put, List.setIfInBounds_toArray, List.set_cons_zero, List.set_cons_succ, Nat.zero_add, Nat.reduceAdd, e12, e15] at hK ⊢
                  rw [if_neg (by exact Bool.false_ne_true)]
                  exact hK _ _ (Below.refl _ _) rfl
                · intro ys wx hw hd K hK
                  have e12 : ys 12 = _ := hd 12 (by decide)
                  have e16 : ys 16 = _ := hd 16 (by decide)
                  simp only [putL, Act.put, List.setIfInBounds_toArray, List.set_cons_zero, List.set_cons_succ, Nat.zero_add, Nat.reduceAdd, e12, e16] at hK ⊢
                  rw [if_neg (by exact Bool.false_ne_true)]
                  exact hK _ _ (Below.refl _ _) rfl
                · intro ys wx hw hd K hK
                  have e12 : ys 12 = _ := hd 12 (by decide)
                  simp only [putL, Act.put, List.setIfInBounds_toArray, List.set_cons_zero, List.set_cons_succ, Nat.zero_add, Nat.reduceAdd, e12] at hK ⊢
                  rw [if_neg (by exact Bool.false_ne_true)]
                  exact hK _ _ (Below.refl _ _) rfl
                · intro ys wx hw hd K hK
                  have e12 : ys 12 = _ := hd 12 (by decide)
                  simp only [putL, Act.put, List.setIfInBounds_toArray, List.set_cons_zero, List.set_cons_succ, Nat.zero_add, Nat.reduceAdd, e12] at hK ⊢
                  rw [if_neg (by exact Bool.false_ne_true)]
                  exact hK _ _ (Below.refl _ _) rfl
                · intro ys wx hw hd K hK
                  have e12 : ys 12 = _ := hd 12 (by decide)
                  have e18 : ys 18 = _ := hd 18 (by decide)
                  have e19 : ys 19 = _ := hd 19 (by decide)
                  simp only [putL, Act.put, List.setIfInBounds_toArray, List.set_cons_zero, List.set_cons_succ, Nat.zero_add, Nat.reduceAdd, e12, e18, e19] at hK ⊢
                  rw [if_neg (by exact Bool.false_ne_true)]
                  exact hK _ _ (Below.refl _ _) rfl
                · intro ys wx hw hd K hK
                  have e12 : ys 12 = _ := hd 12 (by decide)
                  have e20 : ys 20 = _ := hd 20 (by decide)
                  simp only [putL, Act.put, List.setIfInBounds_toArray, List.set_cons_zero, List.set_cons_succ, Nat.zero_add, Nat.reduceAdd, e12, e20] at hK ⊢
                  rw [if_neg (by exact Bool.false_ne_true)]
                  exact hK _ _ (Below.refl _ _) rfl
                · intro ys wx hw hd K hK
                  have e12 : ys 12 = _ := hd 12 (by decide)
                  have e21 : ys 21 = _ := hd 21 (by decide)
                  simp only [putL, Act.put, List.setIfInBounds_toArray, List.set_cons_zero, List.set_cons_succ, Nat.zero_add, Nat.reduceAdd, e12, e21] at hK ⊢
                  rw [if_neg (by exact Bool.false_ne_true)]
                  exact hK _ _ (Below.refl _ _) rfl
                · intro ys wx hw hd K hK
                  have e12 : ys 12 = _ := hd 12 (by decide)
                  have e17 : ys 17 = _ := hd 17 (by decide)
                  have e22 : ys 22 = _ := hd 22 (by decide)
                  simp only [putL, Act.put, List.setIfInBounds_toArray, List.set_cons_zero, List.set_cons_succ, Nat.zero_add, Nat.reduceAdd, e12, e17, e22] at hK ⊢
                  rw [if_neg (by exact Bool.false_ne_true)]
                  exact hK _ _ (Below.refl _ _) rfl
                · intro ys wx hw hd K hK
                  have e12 : ys 12 = _ := hd 12 (by decide)
                  have e23 : ys 23 = _ := hd 23 (by decide)
                  simp only [putL, Act.put, List.setIfInBounds_toArray, List.set_cons_zero, List.set_cons_succ, Nat.zero_add, Nat.reduceAdd, e12, e23] at hK ⊢
                  rw [if_pos (by rfl)]
                  go_simp
                  exact hK _ _ (Below.refl _ _) rfl
              · intro ys w' hl' hV
                have e24 : ys 24 = _ := hV 24 (by decide)
                clear hV
                simp only [putL, Act.put, List.setIfInBounds_toArray, List.set_cons_zero, List.set_cons_succ, Nat.zero_add, Nat.reduceAdd, e24]
                clear e24
                go_wp2
                go_roundw
                case rel => exact ⟨k + 1, by omega, by go_num, hlw2.trans (hl'.mono hlw2.size)⟩
                case measure => simp [intOf]; omega
            | false =>
              have HEa := Lib.hid ea
              cases eb : namesB b k with
              | true =>
                have HEb := Lib.hid eb
                clear ea eb
                go_wp2_with fail
                refine region_list [Cv (.func (.func 25) #[] #[]), Cv (.agg #[.int .i64 a.kind, .int .i64 a.n, .int .i64 a.m, .slice Aa a.data.length ca]), Cv (.int .i64 k), Cv (.bool false), Cv (.bool true), Cv (.bool true), Cv (.func (.func 25) #[] #[]), Cv (.agg #[.int .i64 b.kind, .int .i64 b.n, .int .i64 b.m, .slice Ab b.data.length cb]), Cv (.int .i64 k), Cv (.bool true), Cv (.bool false), Cv (.bool false), Cv (.bool false), Cv (undef), Cv (undef), Cv (undef), Cv (undef), Cv (undef), Cv (undef), Cv (undef), Cv (undef), Cv (undef), Cv (undef), Cv (undef), Cv (.bool false)] (by kernel_rfl) (by kernel_rfl) (by kernel_rfl) ?_ ?_ ?_
                · repeat (first | exact trivial | refine ⟨mC _, ?_⟩ | refine ⟨mR okB _, ?_⟩ | refine ⟨mT, ?_⟩ | refine ⟨mR okBB _, ?_⟩ | refine ⟨mR okBBB _, ?_⟩)
                · simp only [StepsL]
                  refine ⟨?_, ?_, ?_, ?_, ?_, ?_, ?_, ?_, ?_, ?_, ?_, ?_, ?_, ?_, ?_, ?_, ?_, ?_, ?_, ?_, ?_, ?_, ?_, ?_, ?_, trivial⟩
                  · intro ys wx hw hd K hK
                    simp only [putL, Act.put, List.setIfInBounds_toArray, List.set_cons_zero, List.set_cons_succ, Nat.zero_add, Nat.reduceAdd] at hK ⊢
                    rw [if_pos (by rfl)]
                    go_simp
                    exact hK _ _ (Below.refl _ _) rfl
                  · intro ys wx hw hd K hK
                    simp only [putL, Act.put, List.setIfInBounds_toArray, List.set_cons_zero, List.set_cons_succ, Nat.zero_add, Nat.reduceAdd] at hK ⊢
                    rw [if_pos (by rfl)]
                    obtain ⟨kb0, kb1, kb2, kb3, _⟩ := hxa2.out.keep hw hxa2.out.lt
                    go_simp
                    exact hK _ _ (Below.refl _ _) rfl
                  · intro ys wx hw hd K hK
                    simp only [putL, Act.put, List.setIfInBounds_toArray, List.set_cons_zero, List.set_cons_succ, Nat.zero_add, Nat.reduceAdd] at hK ⊢
                    rw [if_pos (by rfl)]
                    go_simp
                    exact hK _ _ (Below.refl _ _) rfl
                  · intro ys wx hw hd K hK
                    have e0 : ys 0 = _ := hd 0 (by decide)
                    have e1 : ys 1 = _ := hd 1 (by decide)
                    have e2 : ys 2 = _ := hd 2 (by decide)
                    simp only [putL, Act.put, List.setIfInBounds_toArray, List.set_cons_zero, List.set_cons_succ, Nat.zero_add, Nat.reduceAdd, e0, e1, e2] at hK ⊢
                    rw [if_pos (by rfl)]
                    go_simp
                    refine (law5_names a _ _ _ ⟨_, rfl, okB.grow hav2.out hw⟩ k).mono ?_
                    rintro e w' ⟨rfl, hb'⟩
                    exact hK _ _ hb' (by rw [HEa.out]; rfl)
                  · intro ys wx hw hd K hK
                    have e3 : ys 3 = _ := hd 3 (by decide)
                    simp only [putL, Act.put, List.setIfInBounds_toArray, List.set_cons_zero, List.set_cons_succ, Nat.zero_add, Nat.reduceAdd, e3] at hK ⊢
                    rw [if_pos (by rfl)]
                    go_simp
                    exact hK _ _ (Below.refl _ _) rfl
                  · intro ys wx hw hd K hK
                    have e4 : ys 4 = _ := hd 4 (by decide)
                    simp only [putL, Act.put, List.setIfInBounds_toArray, List.set_cons_zero, List.set_cons_succ, Nat.zero_add, Nat.reduceAdd, e4] at hK ⊢
                    rw [if_pos (by rfl)]
                    go_simp
                    exact hK _ _ (Below.refl _ _) rfl
                  · intro ys wx hw hd K hK
                    have e5 : ys 5 = _ := hd 5 (by decide)
                    simp only [putL, Act.put, List.setIfInBounds_toArray, List.set_cons_zero, List.set_cons_succ, Nat.zero_add, Nat.reduceAdd, e5] at hK ⊢
                    rw [if_pos (by rfl)]
                    go_simp
                    exact hK _ _ (Below.refl _ _) rfl
                  · intro ys wx hw hd K hK
                    have e5 : ys 5 = _ := hd 5 (by decide)
                    simp only [putL, Act.put, List.setIfInBounds_toArray, List.set_cons_zero, List.set_cons_succ, Nat.zero_add, Nat.reduceAdd, e5] at hK ⊢
                    rw [if_pos (by rfl)]
                    obtain ⟨kb0, kb1, kb2, kb3, _⟩ := hxb2.out.keep hw hxb2.out.lt
                    go_simp
                    exact hK _ _ (Below.refl _ _) rfl
                  · intro ys wx hw hd K hK
                    have e5 : ys 5 = _ := hd 5 (by decide)
                    simp only [putL, Act.put, List.setIfInBounds_toArray, List.set_cons_zero, List.set_cons_succ, Nat.zero_add, Nat.reduceAdd, e5] at hK ⊢
                    rw [if_pos (by rfl)]
                    go_simp
                    exact hK _ _ (Below.refl _ _) rfl
                  · intro ys wx hw hd K hK
                    have e5 : ys 5 = _ := hd 5 (by decide)
                    have e6 : ys 6 = _ := hd 6 (by decide)
                    have e7 : ys 7 = _ := hd 7 (by decide)
                    have e8 : ys 8 = _ := hd 8 (by decide)
                    simp only [putL, Act.put, List.setIfInBounds_toArray, List.set_cons_zero, List.set_cons_succ, Nat.zero_add, Nat.reduceAdd, e5, e6, e7, e8] at hK ⊢
                    rw [if_pos (by rfl)]
                    go_simp
                    refine (law5_names b _ _ _ ⟨_, rfl, okB.grow hbv2.out hw⟩ k).mono ?_
                    rintro e w' ⟨rfl, hb'⟩
                    exact hK _ _ hb' (by rw [HEb.out]; rfl)
                  · intro ys wx hw hd K hK
                    have e5 : ys 5 = _ := hd 5 (by decide)
                    have e9 : ys 9 = _ := hd 9 (by decide)
                    simp only [putL, Act.put, List.setIfInBounds_toArray, List.set_cons_zero, List.set_cons_succ, Nat.zero_add, Nat.reduceAdd, e5, e9] at hK ⊢
                    rw [if_pos (by rfl)]
                    go_simp
                    exact hK _ _ (Below.refl _ _) rfl
                  · intro ys wx hw hd K hK
                    have e5 : ys 5 = _ := hd 5 (by decide)
                    have e10 : ys 10 = _ := hd 10 (by decide)
                    simp only [putL, Act.put, List.setIfInBounds_toArray, List.set_cons_zero, List.set_cons_succ, Nat.zero_add, Nat.reduceAdd, e5, e10] at hK ⊢
                    rw [if_pos (by rfl)]
                    go_simp
                    exact hK _ _ (Below.refl _ _) rfl
                  · intro ys wx hw hd K hK
                    have e11 : ys 11 = _ := hd 11 (by decide)
                    simp only [putL, Act.put, List.setIfInBounds_toArray, List.set_cons_zero, List.set_cons_succ, Nat.zero_add, Nat.reduceAdd, e11] at hK ⊢
                    rw [if_pos (by rfl)]
                    go_simp
                    exact hK _ _ (Below.refl _ _) rfl
                  · intro ys wx hw hd K hK
                    have e12 : ys 12 = _ := hd 12 (by decide)
                    simp only [putL, Act.put, List.setIfInBounds_toArray, List.set_cons_zero, List.set_cons_succ, Nat.zero_add, Nat.reduceAdd, e12] at hK ⊢
                    rw [if_neg (by exact Bool.false_ne_true)]
                    exact hK _ _ (Below.refl _ _) rfl
                  · intro ys wx hw hd K hK
                    have e12 : ys 12 = _ := hd 12 (by decide)
                    simp only [putL, Act.put, List.setIfInBounds_toArray, List.set_cons_zero, List.set_cons_succ, Nat.zero_add, Nat.reduceAdd, e12] at hK ⊢
                    rw [if_neg (by exact Bool.false_ne_true)]
                    exact hK _ _ (Below.refl _ _) rfl
                  · intro ys wx hw hd K hK
                    have e12 : ys 12 = _ := hd 12 (by decide)
                    have e13 : ys 13 = _ := hd 13 (by decide)
                    have e14 : ys 14 = _ := hd 14 (by decide)
                    simp only [putL, Act.put, List.setIfInBounds_toArray, List.set_cons_zero, List.set_cons_succ, Nat.zero_add, Nat.reduceAdd, e12, e13, e14] at hK ⊢
                    rw [if_neg (by exact Bool.false_ne_true)]
                    exact hK _ _ (Below.refl _ _) rfl
                  · intro ys wx hw hd K hK
                    have e12 : ys 12 = _ := hd 12 (by decide)
                    have e15 : ys 15 = _ := hd 15 (by decide)
                    simp only [putL, Act.put, List.setIfInBounds_toArray, List.set_cons_zero, List.set_cons_succ, Nat.zero_add, Nat.reduceAdd, e12, e15] at hK ⊢
                    rw [if_neg (by exact Bool.false_ne_true)]
                    exact hK _ _ (Below.refl _ _) rfl
                  · intro ys wx hw hd K hK
                    have e12 : ys 12 = _ := hd 12 (by decide)
                    have e16 : ys 16 = _ := hd 16 (by decide)
                    simp only [putL, Act.put, List.setIfInBounds_toArray, List.set_cons_zero, List.set_cons_succ, Nat.zero_add, Nat.reduceAdd, e12, e16] at hK ⊢
                    rw [if_neg (by exact Bool.false_ne_true)]
                    exact hK _ _ (Below.refl _ _) rfl
                  · intro ys wx hw hd K hK
                    have e12 : ys 12 = _ := hd 12 (by decide)
                    simp only [putL, Act.put, List.setIfInBounds_toArray, List.set_cons_zero, List.set_cons_succ, Nat.zero_add, Nat.reduceAdd, e12] at hK ⊢
                    rw [if_neg (by exact Bool.false_ne_true)]
                    exact hK _ _ (Below.refl _ _) rfl
                  · intro ys wx hw hd K hK
                    have e12 : ys 12 = _ := hd 12 (by decide)
                    simp only [putL, Act.put, List.setIfInBounds_toArray, List.set_cons_zero, List.set_cons_succ, Nat.zero_add, Nat.reduceAdd, e12] at hK ⊢
                    rw [if_neg (by exact Bool.false_ne_true)]
                    exact hK _ _ (Below.refl _ _) rfl
                  · intro ys wx hw hd K hK
                    have e12 : ys 12 = _ := hd 12 (by decide)
                    have e18 : ys 18 = _ := hd 18 (by decide)
                    have e19 : ys 19 = _ := hd 19 (by decide)
                    simp only [putL, Act.put, List.setIfInBounds_toArray, List.set_cons_zero, List.set_cons_succ, Nat.zero_add, Nat.reduceAdd, e12, e18, e19] at hK ⊢
                    rw [if_neg (by exact Bool.false_ne_true)]
                    exact hK _ _ (Below.refl _ _) rfl
                  · intro ys wx hw hd K hK
                    have e12 : ys 12 = _ := hd 12 (by decide)
                    have e20 : ys 20 = _ := hd 20 (by decide)
                    simp only [putL, Act.put, List.setIfInBounds_toArray, List.set_cons_zero, List.set_cons_succ, Nat.zero_add, Nat.reduceAdd, e12, e20] at hK ⊢
                    rw [if_neg (by exact Bool.false_ne_true)]
                    exact hK _ _ (Below.refl _ _) rfl
                  · intro ys wx hw hd K hK
                    have e12 : ys 12 = _ := hd 12 (by decide)
                    have e21 : ys 21 = _ := hd 21 (by decide)
                    simp only [putL, Act.put, List.setIfInBounds_toArray, List.set_cons_zero, List.set_cons_succ, Nat.zero_add, Nat.reduceAdd, e12, e21] at hK ⊢
                    rw [if_neg (by exact Bool.false_ne_true)]
                    exact hK _ _ (Below.refl _ _) rfl
                  · intro ys wx hw hd K hK
                    have e12 : ys 12 = _ := hd 12 (by decide)
                    have e17 : ys 17 = _ := hd 17 (by decide)
                    have e22 : ys 22 = _ := hd 22 (by decide)
                    simp only [putL, Act.put, List.setIfInBounds_toArray, List.set_cons_zero, List.set_cons_succ, Nat.zero_add, Nat.reduceAdd, e12, e17, e22] at hK ⊢
                    rw [if_neg (by exact Bool.false_ne_true)]
                    exact hK _ _ (Below.refl _ _) rfl
                  · intro ys wx hw hd K hK
                    have e12 : ys 12 = _ := hd 12 (by decide)
                    have e23 : ys 23 = _ := hd 23 (by decide)
                    simp only [putL, Act.put, List.setIfInBounds_toArray, List.set_cons_zero, List.set_cons_succ, Nat.zero_add, Nat.reduceAdd, e12, e23] at hK ⊢
                    rw [if_pos (by rfl)]
                    go_simp
                    exact hK _ _ (Below.refl _ _) rfl
                · intro ys w' hl' hV
                  have e24 : ys 24 = _ := hV 24 (by decide)
                  clear hV
                  simp only [putL, Act.put, List.setIfInBounds_toArray, List.set_cons_zero, List.set_cons_succ, Nat.zero_add, Nat.reduceAdd, e24]
                  clear e24
                  go_wp2
                  go_roundw
                  case rel => exact ⟨k + 1, by omega, by go_num, hlw2.trans (hl'.mono hlw2.size)⟩
                  case measure => simp [intOf]; omega
              | false =>
                have HEb := Lib.hid eb
                have hkl : k < l.length := by rw [HLen.out]; exact hlt
                have hxk : (doD (doD l a) b)[k]? = some l[k] := by
                  have h1 := doD_other HRb.out HLa.out hlt eb
                  rw [doD_other HRa.out HLen.out hlt ea] at h1
                  have h2 : k < (doD (doD l a) b).length := by rw [doD_len _ b HLa.out]; exact hlt
                  rw [List.getElem?_eq_getElem h2]
                  simpa [List.getD, List.getElem?_eq_getElem h2, List.getElem?_eq_getElem hkl] using h1
                obtain ⟨ux, hux, hRx⟩ := RdL_q (okBB.grow k10 hlw2) hxk
                obtain ⟨ul, hul, hRl⟩ := RdL_q (okBB.grow HL3.out hlw2) (List.getElem?_eq_getElem hkl)
                have HUx := Lib.hid hux
                have HUl := Lib.hid hul
                have HRx := Lib.hid hRx
                have HRl := Lib.hid hRl
                clear ea eb hxk hux hul hRx hRl
                go_wp2_with fail
                refine region_list [Cv (.func (.func 25) #[] #[]), Cv (.agg #[.int .i64 a.kind, .int .i64 a.n, .int .i64 a.m, .slice Aa a.data.length ca]), Cv (.int .i64 k), Cv (.bool false), Cv (.bool true), Cv (.bool true), Cv (.func (.func 25) #[] #[]), Cv (.agg #[.int .i64 b.kind, .int .i64 b.n, .int .i64 b.m, .slice Ab b.data.length cb]), Cv (.int .i64 k), Cv (.bool false), Cv (.bool true), Cv (.bool true), Cv (.bool true), Cv (.slice (some ⟨bx, ox, none⟩) 9 cx), Cv (.int .i64 k), Cv (.pointer (some ⟨bx, ox + k, none⟩)), Cv (ux), Cv (.string (strB l[k])), Cv (.slice (some ⟨bl, ol, none⟩) 9 cl), Cv (.int .i64 k), Cv (.pointer (some ⟨bl, ol + k, none⟩)), Cv (ul), Cv (.string (strB l[k])), Cv (.bool false), Cv (.bool false)] (by kernel_rfl) (by kernel_rfl) (by kernel_rfl) ?_ ?_ ?_
                · repeat (first | exact trivial | refine ⟨mC _, ?_⟩ | refine ⟨mR okB _, ?_⟩ | refine ⟨mT, ?_⟩ | refine ⟨mR okBB _, ?_⟩ | refine ⟨mR okBBB _, ?_⟩)
                · simp only [StepsL]
                  refine ⟨?_, ?_, ?_, ?_, ?_, ?_, ?_, ?_, ?_, ?_, ?_, ?_, ?_, ?_, ?_, ?_, ?_, ?_, ?_, ?_, ?_, ?_, ?_, ?_, ?_, trivial⟩
                  · intro ys wx hw hd K hK
                    simp only [putL, Act.put, List.setIfInBounds_toArray, List.set_cons_zero, List.set_cons_succ, Nat.zero_add, Nat.reduceAdd] at hK ⊢
                    rw [if_pos (by rfl)]
                    go_simp
                    exact hK _ _ (Below.refl _ _) rfl
                  · intro ys wx hw hd K hK
                    simp only [putL, Act.put, List.setIfInBounds_toArray, List.set_cons_zero, List.set_cons_succ, Nat.zero_add, Nat.reduceAdd] at hK ⊢
                    rw [if_pos (by rfl)]
                    obtain ⟨kb0, kb1, kb2, kb3, _⟩ := hxa2.out.keep hw hxa2.out.lt
                    go_simp
                    exact hK _ _ (Below.refl _ _) rfl
                  · intro ys wx hw hd K hK
                    simp only [putL, Act.put, List.setIfInBounds_toArray, List.set_cons_zero, List.set_cons_succ, Nat.zero_add, Nat.reduceAdd] at hK ⊢
                    rw [if_pos (by rfl)]
                    go_simp
                    exact hK _ _ (Below.refl _ _) rfl
                  · intro ys wx hw hd K hK
                    have e0 : ys 0 = _ := hd 0 (by decide)
                    have e1 : ys 1 = _ := hd 1 (by decide)
                    have e2 : ys 2 = _ := hd 2 (by decide)
                    simp only [putL, Act.put, List.setIfInBounds_toArray, List.set_cons_zero, List.set_cons_succ, Nat.zero_add, Nat.reduceAdd, e0, e1, e2] at hK ⊢
                    rw [if_pos (by rfl)]
                    go_simp
                    refine (law5_names a _ _ _ ⟨_, rfl, okB.grow hav2.out hw⟩ k).mono ?_
                    rintro e w' ⟨rfl, hb'⟩
                    exact hK _ _ hb' (by rw [HEa.out]; rfl)
                  · intro ys wx hw hd K hK
                    have e3 : ys 3 = _ := hd 3 (by decide)
                    simp only [putL, Act.put, List.setIfInBounds_toArray, List.set_cons_zero, List.set_cons_succ, Nat.zero_add, Nat.reduceAdd, e3] at hK ⊢
                    rw [if_pos (by rfl)]
                    go_simp
                    exact hK _ _ (Below.refl _ _) rfl
                  · intro ys wx hw hd K hK
                    have e4 : ys 4 = _ := hd 4 (by decide)
                    simp only [putL, Act.put, List.setIfInBounds_toArray, List.set_cons_zero, List.set_cons_succ, Nat.zero_add, Nat.reduceAdd, e4] at hK ⊢
                    rw [if_pos (by rfl)]
                    go_simp
                    exact hK _ _ (Below.refl _ _) rfl
                  · intro ys wx hw hd K hK
                    have e5 : ys 5 = _ := hd 5 (by decide)
                    simp only [putL, Act.put, List.setIfInBounds_toArray, List.set_cons_zero, List.set_cons_succ, Nat.zero_add, Nat.reduceAdd, e5] at hK ⊢
                    rw [if_pos (by rfl)]
                    go_simp
                    exact hK _ _ (Below.refl _ _) rfl
                  · intro ys wx hw hd K hK
                    have e5 : ys 5 = _ := hd 5 (by decide)
                    simp only [putL, Act.put, List.setIfInBounds_toArray, List.set_cons_zero, List.set_cons_succ, Nat.zero_add, Nat.reduceAdd, e5] at hK ⊢
                    rw [if_pos (by rfl)]
                    obtain ⟨kb0, kb1, kb2, kb3, _⟩ := hxb2.out.keep hw hxb2.out.lt
                    go_simp
                    exact hK _ _ (Below.refl _ _) rfl
                  · intro ys wx hw hd K hK
                    have e5 : ys 5 = _ := hd 5 (by decide)
                    simp only [putL, Act.put, List.setIfInBounds_toArray, List.set_cons_zero, List.set_cons_succ, Nat.zero_add, Nat.reduceAdd, e5] at hK ⊢
                    rw [if_pos (by rfl)]
                    go_simp
                    exact hK _ _ (Below.refl _ _) rfl
                  · intro ys wx hw hd K hK
                    have e5 : ys 5 = _ := hd 5 (by decide)
                    have e6 : ys 6 = _ := hd 6 (by decide)
                    have e7 : ys 7 = _ := hd 7 (by decide)
                    have e8 : ys 8 = _ := hd 8 (by decide)
                    simp only [putL, Act.put, List.setIfInBounds_toArray, List.set_cons_zero, List.set_cons_succ, Nat.zero_add, Nat.reduceAdd, e5, e6, e7, e8] at hK ⊢
                    rw [if_pos (by rfl)]
                    go_simp
                    refine (law5_names b _ _ _ ⟨_, rfl, okB.grow hbv2.out hw⟩ k).mono ?_
                    rintro e w' ⟨rfl, hb'⟩
                    exact hK _ _ hb' (by rw [HEb.out]; rfl)
                  · intro ys wx hw hd K hK
                    have e5 : ys 5 = _ := hd 5 (by decide)
                    have e9 : ys 9 = _ := hd 9 (by decide)
                    simp only [putL, Act.put, List.setIfInBounds_toArray, List.set_cons_zero, List.set_cons_succ, Nat.zero_add, Nat.reduceAdd, e5, e9] at hK ⊢
                    rw [if_pos (by rfl)]
                    go_simp
                    exact hK _ _ (Below.refl _ _) rfl
                  · intro ys wx hw hd K hK
                    have e5 : ys 5 = _ := hd 5 (by decide)
                    have e10 : ys 10 = _ := hd 10 (by decide)
                    simp only [putL, Act.put, List.setIfInBounds_toArray, List.set_cons_zero, List.set_cons_succ, Nat.zero_add, Nat.reduceAdd, e5, e10] at hK ⊢
                    rw [if_pos (by rfl)]
                    go_simp
                    exact hK _ _ (Below.refl _ _) rfl
                  · intro ys wx hw hd K hK
                    have e11 : ys 11 = _ := hd 11 (by decide)
                    simp only [putL, Act.put, List.setIfInBounds_toArray, List.set_cons_zero, List.set_cons_succ, Nat.zero_add, Nat.reduceAdd, e11] at hK ⊢
                    rw [if_pos (by rfl)]
                    go_simp
                    exact hK _ _ (Below.refl _ _) rfl
                  · intro ys wx hw hd K hK
                    have e12 : ys 12 = _ := hd 12 (by decide)
                    simp only [putL, Act.put, List.setIfInBounds_toArray, List.set_cons_zero, List.set_cons_succ, Nat.zero_add, Nat.reduceAdd, e12] at hK ⊢
                    rw [if_pos (by rfl)]
                    go_simp
                    exact hK _ _ (Below.refl _ _) rfl
                  · intro ys wx hw hd K hK
                    have e12 : ys 12 = _ := hd 12 (by decide)
                    simp only [putL, Act.put, List.setIfInBounds_toArray, List.set_cons_zero, List.set_cons_succ, Nat.zero_add, Nat.reduceAdd, e12] at hK ⊢
                    rw [if_pos (by rfl)]
                    go_simp
                    exact hK _ _ (Below.refl _ _) rfl
                  · intro ys wx hw hd K hK
                    have e12 : ys 12 = _ := hd 12 (by decide)
                    have e13 : ys 13 = _ := hd 13 (by decide)
                    have e14 : ys 14 = _ := hd 14 (by decide)
                    simp only [putL, Act.put, List.setIfInBounds_toArray, List.set_cons_zero, List.set_cons_succ, Nat.zero_add, Nat.reduceAdd, e12, e13, e14] at hK ⊢
                    rw [if_pos (by rfl)]
                    have q1 : (k : Int) < 9 := by omega
                    have q0 : (0 : Int) ≤ k := by omega
                    have q2 : (k : Int).toNat = k := by omega
                    go_simp
                    exact hK _ _ (Below.refl _ _) rfl
                  · intro ys wx hw hd K hK
                    have e12 : ys 12 = _ := hd 12 (by decide)
                    have e15 : ys 15 = _ := hd 15 (by decide)
                    simp only [putL, Act.put, List.setIfInBounds_toArray, List.set_cons_zero, List.set_cons_succ, Nat.zero_add, Nat.reduceAdd, e12, e15] at hK ⊢
                    rw [if_pos (by rfl)]
                    have kx := (hw.cell (World.block_lt_of_cell? _ _ HUx.out)).trans HUx.out
                    go_simp
                    exact hK _ _ (Below.refl _ _) rfl
                  · intro ys wx hw hd K hK
                    have e12 : ys 12 = _ := hd 12 (by decide)
                    have e16 : ys 16 = _ := hd 16 (by decide)
                    simp only [putL, Act.put, List.setIfInBounds_toArray, List.set_cons_zero, List.set_cons_succ, Nat.zero_add, Nat.reduceAdd, e12, e16] at hK ⊢
                    rw [if_pos (by rfl)]
                    have hc := run_conv (okB.grow HRx.out hw) Try.underlying23 Try.underlying5 Try.underlying9
                    go_simp
                    exact hK _ _ (Below.refl _ _) rfl
                  · intro ys wx hw hd K hK
                    have e12 : ys 12 = _ := hd 12 (by decide)
                    simp only [putL, Act.put, List.setIfInBounds_toArray, List.set_cons_zero, List.set_cons_succ, Nat.zero_add, Nat.reduceAdd, e12] at hK ⊢
                    rw [if_pos (by rfl)]
                    go_simp
                    exact hK _ _ (Below.refl _ _) rfl
                  · intro ys wx hw hd K hK
                    have e12 : ys 12 = _ := hd 12 (by decide)
                    simp only [putL, Act.put, List.setIfInBounds_toArray, List.set_cons_zero, List.set_cons_succ, Nat.zero_add, Nat.reduceAdd, e12] at hK ⊢
                    rw [if_pos (by rfl)]
                    go_simp
                    exact hK _ _ (Below.refl _ _) rfl
                  · intro ys wx hw hd K hK
                    have e12 : ys 12 = _ := hd 12 (by decide)
                    have e18 : ys 18 = _ := hd 18 (by decide)
                    have e19 : ys 19 = _ := hd 19 (by decide)
                    simp only [putL, Act.put, List.setIfInBounds_toArray, List.set_cons_zero, List.set_cons_succ, Nat.zero_add, Nat.reduceAdd, e12, e18, e19] at hK ⊢
                    rw [if_pos (by rfl)]
                    have q1 : (k : Int) < 9 := by omega
                    have q0 : (0 : Int) ≤ k := by omega
                    have q2 : (k : Int).toNat = k := by omega
                    go_simp
                    exact hK _ _ (Below.refl _ _) rfl
                  · intro ys wx hw hd K hK
                    have e12 : ys 12 = _ := hd 12 (by decide)
                    have e20 : ys 20 = _ := hd 20 (by decide)
                    simp only [putL, Act.put, List.setIfInBounds_toArray, List.set_cons_zero, List.set_cons_succ, Nat.zero_add, Nat.reduceAdd, e12, e20] at hK ⊢
                    rw [if_pos (by rfl)]
                    have kx := (hw.cell (World.block_lt_of_cell? _ _ HUl.out)).trans HUl.out
                    go_simp
                    exact hK _ _ (Below.refl _ _) rfl
                  · intro ys wx hw hd K hK
                    have e12 : ys 12 = _ := hd 12 (by decide)
                    have e21 : ys 21 = _ := hd 21 (by decide)
                    simp only [putL, Act.put, List.setIfInBounds_toArray, List.set_cons_zero, List.set_cons_succ, Nat.zero_add, Nat.reduceAdd, e12, e21] at hK ⊢
                    rw [if_pos (by rfl)]
                    have hc := run_conv (okB.grow HRl.out hw) Try.underlying23 Try.underlying5 Try.underlying9
                    go_simp
                    exact hK _ _ (Below.refl _ _) rfl
                  · intro ys wx hw hd K hK
                    have e12 : ys 12 = _ := hd 12 (by decide)
                    have e17 : ys 17 = _ := hd 17 (by decide)
                    have e22 : ys 22 = _ := hd 22 (by decide)
                    simp only [putL, Act.put, List.setIfInBounds_toArray, List.set_cons_zero, List.set_cons_succ, Nat.zero_add, Nat.reduceAdd, e12, e17, e22] at hK ⊢
                    rw [if_pos (by rfl)]
                    go_simp
                    exact hK _ _ (Below.refl _ _) rfl
                  · intro ys wx hw hd K hK
                    have e12 : ys 12 = _ := hd 12 (by decide)
                    have e23 : ys 23 = _ := hd 23 (by decide)
                    simp only [putL, Act.put, List.setIfInBounds_toArray, List.set_cons_zero, List.set_cons_succ, Nat.zero_add, Nat.reduceAdd, e12, e23] at hK ⊢
                    rw [if_pos (by rfl)]
                    go_simp
                    exact hK _ _ (Below.refl _ _) rfl
                · intro ys w' hl' hV
                  have e24 : ys 24 = _ := hV 24 (by decide)
                  clear hV
                  simp only [putL, Act.put, List.setIfInBounds_toArray, List.set_cons_zero, List.set_cons_succ, Nat.zero_add, Nat.reduceAdd, e24]
                  clear e24
                  go_wp2
                  go_roundw
                  case rel => exact ⟨k + 1, by omega, by go_num, hlw2.trans (hl'.mono hlw2.size)⟩
                  case measure => simp [intOf]; omega
          · obtain rfl : k = 9 := by omega
            go_wp2_with fail
            refine (model_Same _ _ _ _ _ _ (okBB.grow k10 hlw2) (okBB.grow k11 hlw2)).mono ?_
            rintro e w5 ⟨rfl, hb5⟩
            rw [HS.out, beq_self_eq_true]
            go_wp2
            go_ret
            exact ⟨rfl, hl4.trans ((hlw2.trans (hb5.mono hlw2.size)).mono hl4.size)⟩
namespace modelApartDone
open Go.ChangeShapes Go.WideShapes Go.ChangeAt Go.RowKit M
open Go.ChangeMaps (open_string shut_string)
set_option linter.unusedVariables false
set_option maxRecDepth 100000 in
theorem lifted (os : Os) (started : os.Started) (H : Type) (enc : TypeId × Value → H) :
    ReturnsInHanded {} Try.checked os 4 .any (Rows.modelApartSpec.pre6 enc Try.prog Try.f4 Rows.modelApartRow.domain false) (Rows.modelApartSpec.post enc Try.prog Try.f4 false true false false) := by
  refine returnsInHanded_of_change (C := Try.checked) own started (by kernel_rfl) Try.func4
    (ChangeSpec.witness6 (enc := enc) (C := Try.checked) false ⟨#[], #[.slice none 0 0, .agg #[.int .i64 0, .int .i64 0, .int .i64 0, .slice none 0 0], .agg #[.int .i64 0, .int .i64 0, .int .i64 0, .slice none 0 0]], []⟩ 8 (by kernel_rfl) (by kernel_rfl) (by kernel_rfl) (by kernel_rfl)) ?_
  intro W base args ds gs before hval0 hW hcnd _
  have hval : ∀ (j : Nat) t v, Try.f4.params[j]? = some t → args[j]? = some v → Value.okWide Try.prog W .any base t v := hval0
  have hW' := hW
  obtain ⟨p, q, hA0, hV, rfl, hfz, hnd⟩ := hW
  have hA : DataW.TrodAll enc Try.prog W 0 (fun _ => true) true Try.f4.params.toList args.toList ds p := hA0
  rw [Try.params4] at hA hval
  obtain ⟨v0, vs0, d0, ds0, p0, q0, hargs, rfl, rfl, h0, r0⟩ := trodAll_cons hA
  obtain ⟨v1, vs1, d1, ds1, p1, q1, rfl, rfl, rfl, h1, r1⟩ := trodAll_cons r0
  obtain ⟨v2, vs2, d2, ds2, p2, q2, rfl, rfl, rfl, h2, r2⟩ := trodAll_cons r1
  obtain ⟨rfl, rfl, rfl⟩ := trodAll_nil r2
  obtain rfl : args = #[v0, v1, v2] := by cases args; simp_all
  obtain ⟨rfl, rfl⟩ := trodVars_none hV
  obtain ⟨a0, len0, cap0, rfl⟩ := okWide_slice Try.underlying22 (hval 0 22 v0 rfl rfl)
  have k0 := h0
  have lt0 : ∀ x ∈ p0, x.block < W.heap.size := by obtain ⟨m, hm⟩ := k0; exact DataW.trod_lt m _ _ _ hm
  obtain ⟨fuel0, hf0⟩ := h0
  obtain ⟨b0, w0, l0⟩ := M.open_BB Try.underlying22 (by kernel_rfl) Try.underlying23 Try.underlying5 (by kernel_rfl) hf0
  obtain ⟨b1, w1⟩ := open_deed (hval 1 25 v1 rfl rfl) h1
  have k1 := h1
  have lt1 : ∀ x ∈ p1, x.block < W.heap.size := by obtain ⟨m, hm⟩ := k1; exact DataW.trod_lt m _ _ _ hm
  obtain ⟨b2, w2⟩ := open_deed (hval 2 25 v2 rfl rfl) h2
  have k2 := h2
  have lt2 : ∀ x ∈ p2, x.block < W.heap.size := by obtain ⟨m, hm⟩ := k2; exact DataW.trod_lt m _ _ _ hm
  clear hA0 hval0
  refine (modelApart_walk b0 _ b1 _ b2 _ W w0 w1 w2).mono fun e W' ⟨he, bel⟩ => ?_
  subst he
  exact ⟨_, rfl, _, _, _, [], _, [], hW', trodAll_mk1 (shut_bool Try.underlying4 _), (trodAll_cons_mk (Below.trod laidOut (by kernel_rfl) (of_decide_eq_true (by kernel_rfl)) k0 bel lt0) (trodAll_cons_mk (Below.trod laidOut (by kernel_rfl) (of_decide_eq_true (by kernel_rfl)) k1 bel lt1) (trodAll_cons_mk (Below.trod laidOut (by kernel_rfl) (of_decide_eq_true (by kernel_rfl)) k2 bel lt2) trodAll_mk0))), rfl, bel.frame _, fun h => by cases h⟩
theorem over : Rows.modelApartRow.holds Try.pinned (OpenSpec.ofChange Rows.modelApartSpec) :=
  OpenClaim.holds_of_wide 4 Try.f4 rfl rfl rfl rfl rfl rfl rfl ⟨rfl, rfl, rfl, rfl, rfl⟩ rfl rfl rfl rfl rfl (by kernel_rfl) Try.func4 (by kernel_rfl)
    (of_decide_eq_true (by kernel_rfl)) (by unfold Func.isWrapper; first | (rw [if_pos (by decide +kernel)]; kernel_rfl) | (rw [if_neg (by decide +kernel)]; exact ⟨rfl, rfl⟩))
    (fun os started H enc _ => lifted os started H enc)
/-- The statement. -/
theorem proved : Rows.ModelApartSaid := over
end modelApartDone
end Go.Proofs.Ytlbnkoahkfhimaa

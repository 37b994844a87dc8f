/- Chapter 5: ModelTells holds for every input: the call returns true, and each argument reads behind it as it read before. -/
import Derived.Test.YtlbnkoahkfhimaaC5e
import Derived.Test.YtlbnkoahkfhimaaOpen2
namespace Go.Proofs.Ytlbnkoahkfhimaa
set_option linter.unusedVariables false
open Go Go.RowKit M
set_option maxRecDepth 100000 in
set_option maxHeartbeats 1600000 in
theorem modelTells_walk (l : List Bs) (vl : Value) (m : List Bs) (vm : Value) (d : Deed) (vd : Value) (w : World) (hl : RdBB w (fun _ => True) vl l) (hm : RdBB w (fun _ => True) vm m) (hd : RdD w (fun _ => True) vd d) :
    Calls Try.prog 3 #[vl, vm, vd] w fun e w' => e = .returned (.bool true) ∧ Below w.heap.size w w' := by
  obtain ⟨dv, rfl, hdv⟩ := hd
  obtain ⟨Ad, cd, rfl, _, _⟩ := hdv.shape
  obtain ⟨Al, cl, rfl, _, _⟩ := hl.shape
  obtain ⟨Am, cm, rfl, _, _⟩ := hm.shape
  have hnew := Lib.hid (boxed4_new w (.int .i64 d.kind) (.int .i64 d.n) (.int .i64 d.m) (.slice Ad d.data.length cd) 25)
  have hnb := Lib.hid (below_alloc w (.cells #[.int .i64 d.kind, .int .i64 d.n, .int .i64 d.m, .slice Ad d.data.length cd] 25))
  go_enter Try.func3, Try.ntmps3
  go_wp2_with fail
  generalize w.alloc (.cells #[.int .i64 d.kind, .int .i64 d.n, .int .i64 d.m, .slice Ad d.data.length cd] 25) = w1 at *
  replace hl := okBB.grow hl hnb.out
  replace hm := okBB.grow hm hnb.out
  replace hdv := okB.grow hdv hnb.out
  refine region_list [Rv RdBB newB, Rv RdBB newB, Cv (.bool true), Cv (.bool false), Cv (.bool false), Cv (.agg #[.int .i64 d.kind, .int .i64 d.n, .int .i64 d.m, .slice Ad d.data.length cd]), Cv (.int .i64 (wrongI d)), Cv (.agg #[.int .i64 d.kind, .int .i64 d.n, .int .i64 d.m, .slice Ad d.data.length cd]), Cv (.int .i64 (wrongI d)), Cv (.bool false), Cv (.bool false)] (by kernel_rfl) (by kernel_rfl) (by kernel_rfl) ?_ ?_ ?_
  · repeat (first | exact trivial | refine ⟨mC _, ?_⟩ | refine ⟨mR okB _, ?_⟩ | refine ⟨mT, ?_⟩ | refine ⟨mR okBB _, ?_⟩ | refine ⟨mR okBBB _, ?_⟩)
  · simp only [StepsL]
    refine ⟨?_, ?_, ?_, ?_, ?_, ?_, ?_, ?_, ?_, ?_, ?_, trivial⟩
    · intro ys wx hw hd K hK
      simp only [putL, Act.put, List.setIfInBounds_toArray, List.set_cons_zero, List.set_cons_succ, Nat.zero_add, Nat.reduceAdd] at hK ⊢
      rw [if_pos (by rfl)]
      go_simp
      refine (model_New _).mono ?_
      rintro e w' ⟨v', rfl, hv', hb'⟩
      exact hK _ _ hb' (hv'.toRd_ okB)
    · intro ys wx hw hd K hK
      simp only [putL, Act.put, List.setIfInBounds_toArray, List.set_cons_zero, List.set_cons_succ, Nat.zero_add, Nat.reduceAdd] at hK ⊢
      rw [if_pos (by rfl)]
      go_simp
      refine (ref_NewBlocks _).mono ?_
      rintro e w' ⟨v', rfl, hv', hb'⟩
      exact hK _ _ hb' (hv'.toRd_ okB)
    · intro ys wx hw hd K hK
      have k0 := hd 0 (by decide)
      change (Rv RdBB newB) wx (ys 0) at k0
      have k1 := hd 1 (by decide)
      change (Rv RdBB newB) wx (ys 1) at k1
      simp only [putL, Act.put, List.setIfInBounds_toArray, List.set_cons_zero, List.set_cons_succ, Nat.zero_add, Nat.reduceAdd] at hK ⊢
      rw [if_pos (by rfl)]
      go_simp
      refine (ref_SameBytes newB newB _ _ _ _ k0 k1).mono ?_
      rintro e w' ⟨rfl, hb'⟩
      exact hK _ _ hb' (by rw [beq_self_eq_true]; rfl)
    · intro ys wx hw hd K hK
      have e2 : ys 2 = _ := hd 2 (by decide)
      simp only [putL, Act.put, List.setIfInBounds_toArray, List.set_cons_zero, List.set_cons_succ, Nat.zero_add, Nat.reduceAdd, e2] at hK ⊢
      rw [if_pos (by rfl)]
      go_simp
      exact hK _ _ (Below.refl _ _) rfl
    · intro ys wx hw hd K hK
      have e3 : ys 3 = _ := hd 3 (by decide)
      simp only [putL, Act.put, List.setIfInBounds_toArray, List.set_cons_zero, List.set_cons_succ, Nat.zero_add, Nat.reduceAdd, e3] at hK ⊢
      rw [if_pos (by rfl)]
      go_simp
      exact hK _ _ (Below.refl _ _) rfl
    · intro ys wx hw hd K hK
      have e4 : ys 4 = _ := hd 4 (by decide)
      simp only [putL, Act.put, List.setIfInBounds_toArray, List.set_cons_zero, List.set_cons_succ, Nat.zero_add, Nat.reduceAdd, e4] at hK ⊢
      rw [if_pos (by rfl)]
      obtain ⟨kb0, kb1, kb2, kb3, _⟩ := hnew.out.keep hw hnew.out.lt
      go_simp
      exact hK _ _ (Below.refl _ _) rfl
    · intro ys wx hw hd K hK
      have e4 : ys 4 = _ := hd 4 (by decide)
      have e5 : ys 5 = _ := hd 5 (by decide)
      simp only [putL, Act.put, List.setIfInBounds_toArray, List.set_cons_zero, List.set_cons_succ, Nat.zero_add, Nat.reduceAdd, e4, e5] at hK ⊢
      rw [if_pos (by rfl)]
      go_simp
      refine (model_Wrong d _ _ _ ⟨_, rfl, okB.grow hdv hw⟩).mono ?_
      rintro e w' ⟨rfl, hb'⟩
      exact hK _ _ hb' rfl
    · intro ys wx hw hd K hK
      have e4 : ys 4 = _ := hd 4 (by decide)
      simp only [putL, Act.put, List.setIfInBounds_toArray, List.set_cons_zero, List.set_cons_succ, Nat.zero_add, Nat.reduceAdd, e4] at hK ⊢
      rw [if_pos (by rfl)]
      obtain ⟨kb0, kb1, kb2, kb3, _⟩ := hnew.out.keep hw hnew.out.lt
      go_simp
      exact hK _ _ (Below.refl _ _) rfl
    · intro ys wx hw hd K hK
      have e4 : ys 4 = _ := hd 4 (by decide)
      have e7 : ys 7 = _ := hd 7 (by decide)
      simp only [putL, Act.put, List.setIfInBounds_toArray, List.set_cons_zero, List.set_cons_succ, Nat.zero_add, Nat.reduceAdd, e4, e7] at hK ⊢
      rw [if_pos (by rfl)]
      go_simp
      refine (ref_Wrong d _ _ _ ⟨_, rfl, okB.grow hdv hw⟩).mono ?_
      rintro e w' ⟨rfl, hb'⟩
      exact hK _ _ hb' rfl
    · intro ys wx hw hd K hK
      have e4 : ys 4 = _ := hd 4 (by decide)
      have e6 : ys 6 = _ := hd 6 (by decide)
      have e8 : ys 8 = _ := hd 8 (by decide)
      simp only [putL, Act.put, List.setIfInBounds_toArray, List.set_cons_zero, List.set_cons_succ, Nat.zero_add, Nat.reduceAdd, e4, e6, e8] at hK ⊢
      rw [if_pos (by rfl)]
      go_simp
      exact hK _ _ (Below.refl _ _) rfl
    · intro ys wx hw hd K hK
      have e4 : ys 4 = _ := hd 4 (by decide)
      have e9 : ys 9 = _ := hd 9 (by decide)
      simp only [putL, Act.put, List.setIfInBounds_toArray, List.set_cons_zero, List.set_cons_succ, Nat.zero_add, Nat.reduceAdd, e4, e9] at hK ⊢
      rw [if_pos (by rfl)]
      go_simp
      exact hK _ _ (Below.refl _ _) rfl
  · intro ys w' hl' hV
    have e10 : ys 10 = _ := hV 10 (by decide)
    clear hV
    simp only [putL, Act.put, List.setIfInBounds_toArray, List.set_cons_zero, List.set_cons_succ, Nat.zero_add, Nat.reduceAdd, e10]
    clear e10
    have hl1 := hnb.out.trans (hl'.mono hnb.out.size)
    have hx := Lib.hid (hnew.out.keep hl' hnew.out.lt)
    replace hl := okBB.grow hl hl'
    replace hm := okBB.grow hm hl'
    replace hdv := okB.grow hdv hl'
    clear hl' hnew hnb
    by_cases hrl : rightB l = true
    rotate_left
    · replace hrl : rightB l = false := by simpa using hrl
      go_wp2_with fail
      refine (ref_RightBlocks l _ _ _ hl).mono ?_
      rintro e w2 ⟨rfl, rfl⟩
      go_wp2
      go_ret
      exact ⟨rfl, hl1⟩
    by_cases hrm : rightB m = true
    rotate_left
    · replace hrm : rightB m = false := by simpa using hrm
      go_wp2_with fail
      refine (ref_RightBlocks l _ _ _ hl).mono ?_
      rintro e w2 ⟨rfl, rfl⟩
      go_wp2_with fail
      refine (ref_RightBlocks m _ _ _ hm).mono ?_
      rintro e w2 ⟨rfl, rfl⟩
      go_wp2
      go_ret
      exact ⟨rfl, hl1⟩
    have hlen : l.length = 9 := by unfold rightB at hrl; simp at hrl; exact hrl.2
    have HLen := Lib.hid hlen
    clear hlen
    go_wp2_with fail
    refine (ref_RightBlocks l _ _ _ hl).mono ?_
    rintro e w2 ⟨rfl, rfl⟩
    rw [hrl]
    go_wp2_with fail
    refine (ref_RightBlocks m _ _ _ hm).mono ?_
    rintro e w2 ⟨rfl, rfl⟩
    rw [hrm]
    clear hrl hrm
    go_wp2_with fail
    by_cases hr : wrongI d = 0
    · have HR := Lib.hid hr
      clear hr
      refine region_list [Cv (.slice Al l.length cl), Cv (.slice Am m.length cm), Cv (.bool (l == m)), Cv (.slice Al l.length cl), Cv (.slice Am m.length cm), Cv (.bool (l == m)), Cv (.bool true), Cv (.bool true), Cv (.agg #[.int .i64 d.kind, .int .i64 d.n, .int .i64 d.m, .slice Ad d.data.length cd]), Cv (.int .i64 0), Cv (.bool false), Cv (.bool false), Cv (.slice Al l.length cl), Cv (.agg #[.int .i64 d.kind, .int .i64 d.n, .int .i64 d.m, .slice Ad d.data.length cd]), Rv RdBB (doD l d), Cv (.slice Al l.length cl), Cv (.agg #[.int .i64 d.kind, .int .i64 d.n, .int .i64 d.m, .slice Ad d.data.length cd]), Rv RdBB (doD l d), Cv (.bool true), Cv (.bool true), Cv (.bool true), Cv (.bool true)] (by kernel_rfl) (by kernel_rfl) (by kernel_rfl) ?_ ?_ ?_
      · repeat (first | exact trivial | refine ⟨mC _, ?_⟩ | refine ⟨mR okB _, ?_⟩ | refine ⟨mT, ?_⟩ | refine ⟨mR okBB _, ?_⟩ | refine ⟨mR okBBB _, ?_⟩)
      · simp only [StepsL]
        refine ⟨?_, ?_, ?_, ?_, ?_, ?_, ?_, ?_, ?_, ?_, ?_, ?_, ?_, ?_, ?_, ?_, ?_, ?_, ?_, ?_, ?_, ?_, trivial⟩
        · intro ys wx hw hd K hK
          simp only [putL, Act.put, List.setIfInBounds_toArray, List.set_cons_zero, List.set_cons_succ, Nat.zero_add, Nat.reduceAdd] at hK ⊢
          rw [if_pos (by rfl)]
          go_simp
          exact hK _ _ (Below.refl _ _) rfl
        · intro ys wx hw hd K hK
          simp only [putL, Act.put, List.setIfInBounds_toArray, List.set_cons_zero, List.set_cons_succ, Nat.zero_add, Nat.reduceAdd] at hK ⊢
          rw [if_pos (by rfl)]
          go_simp
          exact hK _ _ (Below.refl _ _) rfl
        · intro ys wx hw hd K hK
          have e0 : ys 0 = _ := hd 0 (by decide)
          have e1 : ys 1 = _ := hd 1 (by decide)
          simp only [putL, Act.put, List.setIfInBounds_toArray, List.set_cons_zero, List.set_cons_succ, Nat.zero_add, Nat.reduceAdd, e0, e1] at hK ⊢
          rw [if_pos (by rfl)]
          go_simp
          refine (model_Same l m _ _ _ _ (okBB.grow hl hw) (okBB.grow hm hw)).mono ?_
          rintro e w' ⟨rfl, hb'⟩
          exact hK _ _ hb' rfl
        · intro ys wx hw hd K hK
          simp only [putL, Act.put, List.setIfInBounds_toArray, List.set_cons_zero, List.set_cons_succ, Nat.zero_add, Nat.reduceAdd] at hK ⊢
          rw [if_pos (by rfl)]
          go_simp
          exact hK _ _ (Below.refl _ _) rfl
        · intro ys wx hw hd K hK
          simp only [putL, Act.put, List.setIfInBounds_toArray, List.set_cons_zero, List.set_cons_succ, Nat.zero_add, Nat.reduceAdd] at hK ⊢
          rw [if_pos (by rfl)]
          go_simp
          exact hK _ _ (Below.refl _ _) rfl
        · intro ys wx hw hd K hK
          have e3 : ys 3 = _ := hd 3 (by decide)
          have e4 : ys 4 = _ := hd 4 (by decide)
          simp only [putL, Act.put, List.setIfInBounds_toArray, List.set_cons_zero, List.set_cons_succ, Nat.zero_add, Nat.reduceAdd, e3, e4] at hK ⊢
          rw [if_pos (by rfl)]
          go_simp
          refine (ref_SameBytes l m _ _ _ _ (okBB.grow hl hw) (okBB.grow hm hw)).mono ?_
          rintro e w' ⟨rfl, hb'⟩
          exact hK _ _ hb' rfl
        · intro ys wx hw hd K hK
          have e2 : ys 2 = _ := hd 2 (by decide)
          have e5 : ys 5 = _ := hd 5 (by decide)
          simp only [putL, Act.put, List.setIfInBounds_toArray, List.set_cons_zero, List.set_cons_succ, Nat.zero_add, Nat.reduceAdd, e2, e5] at hK ⊢
          rw [if_pos (by rfl)]
          go_simp
          exact hK _ _ (Below.refl _ _) rfl
        · intro ys wx hw hd K hK
          have e6 : ys 6 = _ := hd 6 (by decide)
          simp only [putL, Act.put, List.setIfInBounds_toArray, List.set_cons_zero, List.set_cons_succ, Nat.zero_add, Nat.reduceAdd, e6] at hK ⊢
          rw [if_pos (by rfl)]
          go_simp
          exact hK _ _ (Below.refl _ _) rfl
        · intro ys wx hw hd K hK
          have e7 : ys 7 = _ := hd 7 (by decide)
          simp only [putL, Act.put, List.setIfInBounds_toArray, List.set_cons_zero, List.set_cons_succ, Nat.zero_add, Nat.reduceAdd, e7] at hK ⊢
          rw [if_pos (by rfl)]
          obtain ⟨kb0, kb1, kb2, kb3, _⟩ := hx.out.keep hw hx.out.lt
          go_simp
          exact hK _ _ (Below.refl _ _) rfl
        · intro ys wx hw hd K hK
          have e7 : ys 7 = _ := hd 7 (by decide)
          have e8 : ys 8 = _ := hd 8 (by decide)
          simp only [putL, Act.put, List.setIfInBounds_toArray, List.set_cons_zero, List.set_cons_succ, Nat.zero_add, Nat.reduceAdd, e7, e8] at hK ⊢
          rw [if_pos (by rfl)]
          go_simp
          refine (ref_Wrong d _ _ _ ⟨_, rfl, okB.grow hdv hw⟩).mono ?_
          rintro e w' ⟨rfl, hb'⟩
          exact hK _ _ hb' (by rw [HR.out]; rfl)
        · intro ys wx hw hd K hK
          have e7 : ys 7 = _ := hd 7 (by decide)
          have e9 : ys 9 = _ := hd 9 (by decide)
          simp only [putL, Act.put, List.setIfInBounds_toArray, List.set_cons_zero, List.set_cons_succ, Nat.zero_add, Nat.reduceAdd, e7, e9] at hK ⊢
          rw [if_pos (by rfl)]
          go_simp
          exact hK _ _ (Below.refl _ _) rfl
        · intro ys wx hw hd K hK
          have e7 : ys 7 = _ := hd 7 (by decide)
          have e10 : ys 10 = _ := hd 10 (by decide)
          simp only [putL, Act.put, List.setIfInBounds_toArray, List.set_cons_zero, List.set_cons_succ, Nat.zero_add, Nat.reduceAdd, e7, e10] at hK ⊢
          rw [if_pos (by rfl)]
          go_simp
          exact hK _ _ (Below.refl _ _) rfl
        · intro ys wx hw hd K hK
          have e11 : ys 11 = _ := hd 11 (by decide)
          simp only [putL, Act.put, List.setIfInBounds_toArray, List.set_cons_zero, List.set_cons_succ, Nat.zero_add, Nat.reduceAdd, e11] at hK ⊢
          rw [if_pos (by rfl)]
          go_simp
          exact hK _ _ (Below.refl _ _) rfl
        · intro ys wx hw hd K hK
          have e11 : ys 11 = _ := hd 11 (by decide)
          simp only [putL, Act.put, List.setIfInBounds_toArray, List.set_cons_zero, List.set_cons_succ, Nat.zero_add, Nat.reduceAdd, e11] at hK ⊢
          rw [if_pos (by rfl)]
          obtain ⟨kb0, kb1, kb2, kb3, _⟩ := hx.out.keep hw hx.out.lt
          go_simp
          exact hK _ _ (Below.refl _ _) rfl
        · intro ys wx hw hd K hK
          have e11 : ys 11 = _ := hd 11 (by decide)
          have e12 : ys 12 = _ := hd 12 (by decide)
          have e13 : ys 13 = _ := hd 13 (by decide)
          simp only [putL, Act.put, List.setIfInBounds_toArray, List.set_cons_zero, List.set_cons_succ, Nat.zero_add, Nat.reduceAdd, e11, e12, e13] at hK ⊢
          rw [if_pos (by rfl)]
          go_simp
          refine (model_Do l d _ _ _ _ (okBB.grow hl hw) ⟨_, rfl, okB.grow hdv hw⟩ HLen.out HR.out).mono ?_
          rintro e w' ⟨v', rfl, hv', hb'⟩
          exact hK _ _ hb' (hv'.toRd_ okB)
        · intro ys wx hw hd K hK
          have e11 : ys 11 = _ := hd 11 (by decide)
          simp only [putL, Act.put, List.setIfInBounds_toArray, List.set_cons_zero, List.set_cons_succ, Nat.zero_add, Nat.reduceAdd, e11] at hK ⊢
          rw [if_pos (by rfl)]
          go_simp
          exact hK _ _ (Below.refl _ _) rfl
        · intro ys wx hw hd K hK
          have e11 : ys 11 = _ := hd 11 (by decide)
          simp only [putL, Act.put, List.setIfInBounds_toArray, List.set_cons_zero, List.set_cons_succ, Nat.zero_add, Nat.reduceAdd, e11] at hK ⊢
          rw [if_pos (by rfl)]
          obtain ⟨kb0, kb1, kb2, kb3, _⟩ := hx.out.keep hw hx.out.lt
          go_simp
          exact hK _ _ (Below.refl _ _) rfl
        · intro ys wx hw hd K hK
          have e11 : ys 11 = _ := hd 11 (by decide)
          have e15 : ys 15 = _ := hd 15 (by decide)
          have e16 : ys 16 = _ := hd 16 (by decide)
          simp only [putL, Act.put, List.setIfInBounds_toArray, List.set_cons_zero, List.set_cons_succ, Nat.zero_add, Nat.reduceAdd, e11, e15, e16] at hK ⊢
          rw [if_pos (by rfl)]
          go_simp
          refine (ref_Do l d _ _ _ _ (okBB.grow hl hw) ⟨_, rfl, okB.grow hdv hw⟩ HLen.out HR.out).mono ?_
          rintro e w' ⟨v', rfl, hv', hb'⟩
          exact hK _ _ hb' (hv'.toRd_ okB)
        · intro ys wx hw hd K hK
          have e11 : ys 11 = _ := hd 11 (by decide)
          have k14 := hd 14 (by decide)
          change (Rv RdBB (doD l d)) wx (ys 14) at k14
          have k17 := hd 17 (by decide)
          change (Rv RdBB (doD l d)) wx (ys 17) at k17
          simp only [putL, Act.put, List.setIfInBounds_toArray, List.set_cons_zero, List.set_cons_succ, Nat.zero_add, Nat.reduceAdd, e11] at hK ⊢
          rw [if_pos (by rfl)]
          go_simp
          refine (ref_SameBytes (doD l d) (doD l d) _ _ _ _ k14 k17).mono ?_
          rintro e w' ⟨rfl, hb'⟩
          exact hK _ _ hb' (by rw [beq_self_eq_true]; rfl)
        · intro ys wx hw hd K hK
          have e7 : ys 7 = _ := hd 7 (by decide)
          have e11 : ys 11 = _ := hd 11 (by decide)
          have e18 : ys 18 = _ := hd 18 (by decide)
          simp only [putL, Act.put, List.setIfInBounds_toArray, List.set_cons_zero, List.set_cons_succ, Nat.zero_add, Nat.reduceAdd, e7, e11, e18] at hK ⊢
          rw [if_pos (by rfl)]
          go_simp
          exact hK _ _ (Below.refl _ _) rfl
        · intro ys wx hw hd K hK
          have e7 : ys 7 = _ := hd 7 (by decide)
          have e19 : ys 19 = _ := hd 19 (by decide)
          simp only [putL, Act.put, List.setIfInBounds_toArray, List.set_cons_zero, List.set_cons_succ, Nat.zero_add, Nat.reduceAdd, e7, e19] at hK ⊢
          rw [if_pos (by rfl)]
          go_simp
          exact hK _ _ (Below.refl _ _) rfl
        · intro ys wx hw hd K hK
          have e20 : ys 20 = _ := hd 20 (by decide)
          simp only [putL, Act.put, List.setIfInBounds_toArray, List.set_cons_zero, List.set_cons_succ, Nat.zero_add, Nat.reduceAdd, e20] at hK ⊢
          rw [if_pos (by rfl)]
          go_simp
          exact hK _ _ (Below.refl _ _) rfl
      · intro ys w' hl' hV
        have e21 : ys 21 = _ := hV 21 (by decide)
        clear hV
        simp only [putL, Act.put, List.setIfInBounds_toArray, List.set_cons_zero, List.set_cons_succ, Nat.zero_add, Nat.reduceAdd, e21]
        clear e21
        go_wp2
        go_ret
        exact ⟨rfl, hl1.trans (hl'.mono hl1.size)⟩
    · have HR := Lib.hid hr
      have hne : (wrongI d != 0) = true := by simpa using hr
      clear hr
      refine region_list [Cv (.slice Al l.length cl), Cv (.slice Am m.length cm), Cv (.bool (l == m)), Cv (.slice Al l.length cl), Cv (.slice Am m.length cm), Cv (.bool (l == m)), Cv (.bool true), Cv (.bool true), Cv (.agg #[.int .i64 d.kind, .int .i64 d.n, .int .i64 d.m, .slice Ad d.data.length cd]), Cv (.int .i64 (wrongI d)), Cv (.bool true), Cv (.bool true), Cv (undef), Cv (undef), Cv (undef), Cv (undef), Cv (undef), Cv (undef), Cv (undef), Cv (.bool true), Cv (.bool true), Cv (.bool true)] (by kernel_rfl) (by kernel_rfl) (by kernel_rfl) ?_ ?_ ?_
      · repeat (first | exact trivial | refine ⟨mC _, ?_⟩ | refine ⟨mR okB _, ?_⟩ | refine ⟨mT, ?_⟩ | refine ⟨mR okBB _, ?_⟩ | refine ⟨mR okBBB _, ?_⟩)
      · simp only [StepsL]
        refine ⟨?_, ?_, ?_, ?_, ?_, ?_, ?_, ?_, ?_, ?_, ?_, ?_, ?_, ?_, ?_, ?_, ?_, ?_, ?_, ?_, ?_, ?_, trivial⟩
        · intro ys wx hw hd K hK
          simp only [putL, Act.put, List.setIfInBounds_toArray, List.set_cons_zero, List.set_cons_succ, Nat.zero_add, Nat.reduceAdd] at hK ⊢
          rw [if_pos (by rfl)]
          go_simp
          exact hK _ _ (Below.refl _ _) rfl
        · intro ys wx hw hd K hK
          simp only [putL, Act.put, List.setIfInBounds_toArray, List.set_cons_zero, List.set_cons_succ, Nat.zero_add, Nat.reduceAdd] at hK ⊢
          rw [if_pos (by rfl)]
          go_simp
          exact hK _ _ (Below.refl _ _) rfl
        · intro ys wx hw hd K hK
          have e0 : ys 0 = _ := hd 0 (by decide)
          have e1 : ys 1 = _ := hd 1 (by decide)
          simp only [putL, Act.put, List.setIfInBounds_toArray, List.set_cons_zero, List.set_cons_succ, Nat.zero_add, Nat.reduceAdd, e0, e1] at hK ⊢
          rw [if_pos (by rfl)]
          go_simp
          refine (model_Same l m _ _ _ _ (okBB.grow hl hw) (okBB.grow hm hw)).mono ?_
          rintro e w' ⟨rfl, hb'⟩
          exact hK _ _ hb' rfl
        · intro ys wx hw hd K hK
          simp only [putL, Act.put, List.setIfInBounds_toArray, List.set_cons_zero, List.set_cons_succ, Nat.zero_add, Nat.reduceAdd] at hK ⊢
          rw [if_pos (by rfl)]
          go_simp
          exact hK _ _ (Below.refl _ _) rfl
        · intro ys wx hw hd K hK
          simp only [putL, Act.put, List.setIfInBounds_toArray, List.set_cons_zero, List.set_cons_succ, Nat.zero_add, Nat.reduceAdd] at hK ⊢
          rw [if_pos (by rfl)]
          go_simp
          exact hK _ _ (Below.refl _ _) rfl
        · intro ys wx hw hd K hK
          have e3 : ys 3 = _ := hd 3 (by decide)
          have e4 : ys 4 = _ := hd 4 (by decide)
          simp only [putL, Act.put, List.setIfInBounds_toArray, List.set_cons_zero, List.set_cons_succ, Nat.zero_add, Nat.reduceAdd, e3, e4] at hK ⊢
          rw [if_pos (by rfl)]
          go_simp
          refine (ref_SameBytes l m _ _ _ _ (okBB.grow hl hw) (okBB.grow hm hw)).mono ?_
          rintro e w' ⟨rfl, hb'⟩
          exact hK _ _ hb' rfl
        · intro ys wx hw hd K hK
          have e2 : ys 2 = _ := hd 2 (by decide)
          have e5 : ys 5 = _ := hd 5 (by decide)
          simp only [putL, Act.put, List.setIfInBounds_toArray, List.set_cons_zero, List.set_cons_succ, Nat.zero_add, Nat.reduceAdd, e2, e5] at hK ⊢
          rw [if_pos (by rfl)]
          go_simp
          exact hK _ _ (Below.refl _ _) rfl
        · intro ys wx hw hd K hK
          have e6 : ys 6 = _ := hd 6 (by decide)
          simp only [putL, Act.put, List.setIfInBounds_toArray, List.set_cons_zero, List.set_cons_succ, Nat.zero_add, Nat.reduceAdd, e6] at hK ⊢
          rw [if_pos (by rfl)]
          go_simp
          exact hK _ _ (Below.refl _ _) rfl
        · intro ys wx hw hd K hK
          have e7 : ys 7 = _ := hd 7 (by decide)
          simp only [putL, Act.put, List.setIfInBounds_toArray, List.set_cons_zero, List.set_cons_succ, Nat.zero_add, Nat.reduceAdd, e7] at hK ⊢
          rw [if_pos (by rfl)]
          obtain ⟨kb0, kb1, kb2, kb3, _⟩ := hx.out.keep hw hx.out.lt
          go_simp
          exact hK _ _ (Below.refl _ _) rfl
        · intro ys wx hw hd K hK
          have e7 : ys 7 = _ := hd 7 (by decide)
          have e8 : ys 8 = _ := hd 8 (by decide)
          simp only [putL, Act.put, List.setIfInBounds_toArray, List.set_cons_zero, List.set_cons_succ, Nat.zero_add, Nat.reduceAdd, e7, e8] at hK ⊢
          rw [if_pos (by rfl)]
          go_simp
          refine (ref_Wrong d _ _ _ ⟨_, rfl, okB.grow hdv hw⟩).mono ?_
          rintro e w' ⟨rfl, hb'⟩
          exact hK _ _ hb' rfl
        · intro ys wx hw hd K hK
          have e7 : ys 7 = _ := hd 7 (by decide)
          have e9 : ys 9 = _ := hd 9 (by decide)
          simp only [putL, Act.put, List.setIfInBounds_toArray, List.set_cons_zero, List.set_cons_succ, Nat.zero_add, Nat.reduceAdd, e7, e9] at hK ⊢
          rw [if_pos (by rfl)]
          go_simp
          exact hK _ _ (Below.refl _ _) rfl
        · intro ys wx hw hd K hK
          have e7 : ys 7 = _ := hd 7 (by decide)
          have e10 : ys 10 = _ := hd 10 (by decide)
          simp only [putL, Act.put, List.setIfInBounds_toArray, List.set_cons_zero, List.set_cons_succ, Nat.zero_add, Nat.reduceAdd, e7, e10] at hK ⊢
          rw [if_pos (by rfl)]
          go_simp
          exact hK _ _ (Below.refl _ _) rfl
        · intro ys wx hw hd K hK
          have e11 : ys 11 = _ := hd 11 (by decide)
          simp only [putL, Act.put, List.setIfInBounds_toArray, List.set_cons_zero, List.set_cons_succ, Nat.zero_add, Nat.reduceAdd, e11] at hK ⊢
          rw [if_neg (by exact Bool.false_ne_true)]
          exact hK _ _ (Below.refl _ _) rfl
        · intro ys wx hw hd K hK
          have e11 : ys 11 = _ := hd 11 (by decide)
          simp only [putL, Act.put, List.setIfInBounds_toArray, List.set_cons_zero, List.set_cons_succ, Nat.zero_add, Nat.reduceAdd, e11] at hK ⊢
          rw [if_neg (by exact Bool.false_ne_true)]
          exact hK _ _ (Below.refl _ _) rfl
        · intro ys wx hw hd K hK
          have e11 : ys 11 = _ := hd 11 (by decide)
          have e12 : ys 12 = _ := hd 12 (by decide)
          have e13 : ys 13 = _ := hd 13 (by decide)
          simp only [putL, Act.put, List.setIfInBounds_toArray, List.set_cons_zero, List.set_cons_succ, Nat.zero_add, Nat.reduceAdd, e11, e12, e13] at hK ⊢
          rw [if_neg (by exact Bool.false_ne_true)]
          exact hK _ _ (Below.refl _ _) rfl
        · intro ys wx hw hd K hK
          have e11 : ys 11 = _ := hd 11 (by decide)
          simp only [putL, Act.put, List.setIfInBounds_toArray, List.set_cons_zero, List.set_cons_succ, Nat.zero_add, Nat.reduceAdd, e11] at hK ⊢
          rw [if_neg (by exact Bool.false_ne_true)]
          exact hK _ _ (Below.refl _ _) rfl
        · intro ys wx hw hd K hK
          have e11 : ys 11 = _ := hd 11 (by decide)
          simp only [putL, Act.put, List.setIfInBounds_toArray, List.set_cons_zero, List.set_cons_succ, Nat.zero_add, Nat.reduceAdd, e11] at hK ⊢
          rw [if_neg (by exact Bool.false_ne_true)]
          exact hK _ _ (Below.refl _ _) rfl
        · intro ys wx hw hd K hK
          have e11 : ys 11 = _ := hd 11 (by decide)
          have e15 : ys 15 = _ := hd 15 (by decide)
          have e16 : ys 16 = _ := hd 16 (by decide)
          simp only [putL, Act.put, List.setIfInBounds_toArray, List.set_cons_zero, List.set_cons_succ, Nat.zero_add, Nat.reduceAdd, e11, e15, e16] at hK ⊢
          rw [if_neg (by exact Bool.false_ne_true)]
          exact hK _ _ (Below.refl _ _) rfl
        · intro ys wx hw hd K hK
          have e11 : ys 11 = _ := hd 11 (by decide)
          have e14 : ys 14 = _ := hd 14 (by decide)
          have e17 : ys 17 = _ := hd 17 (by decide)
          simp only [putL, Act.put, List.setIfInBounds_toArray, List.set_cons_zero, List.set_cons_succ, Nat.zero_add, Nat.reduceAdd, e11, e14, e17] at hK ⊢
          rw [if_neg (by exact Bool.false_ne_true)]
          exact hK _ _ (Below.refl _ _) rfl
        · intro ys wx hw hd K hK
          have e7 : ys 7 = _ := hd 7 (by decide)
          have e11 : ys 11 = _ := hd 11 (by decide)
          have e18 : ys 18 = _ := hd 18 (by decide)
          simp only [putL, Act.put, List.setIfInBounds_toArray, List.set_cons_zero, List.set_cons_succ, Nat.zero_add, Nat.reduceAdd, e7, e11, e18] at hK ⊢
          rw [if_pos (by rfl)]
          go_simp
          exact hK _ _ (Below.refl _ _) rfl
        · intro ys wx hw hd K hK
          have e7 : ys 7 = _ := hd 7 (by decide)
          have e19 : ys 19 = _ := hd 19 (by decide)
          simp only [putL, Act.put, List.setIfInBounds_toArray, List.set_cons_zero, List.set_cons_succ, Nat.zero_add, Nat.reduceAdd, e7, e19] at hK ⊢
          rw [if_pos (by rfl)]
          go_simp
          exact hK _ _ (Below.refl _ _) rfl
        · intro ys wx hw hd K hK
          have e20 : ys 20 = _ := hd 20 (by decide)
          simp only [putL, Act.put, List.setIfInBounds_toArray, List.set_cons_zero, List.set_cons_succ, Nat.zero_add, Nat.reduceAdd, e20] at hK ⊢
          rw [if_pos (by rfl)]
          go_simp
          exact hK _ _ (Below.refl _ _) rfl
      · intro ys w' hl' hV
        have e21 : ys 21 = _ := hV 21 (by decide)
        clear hV
        simp only [putL, Act.put, List.setIfInBounds_toArray, List.set_cons_zero, List.set_cons_succ, Nat.zero_add, Nat.reduceAdd, e21]
        clear e21
        go_wp2
        go_ret
        exact ⟨rfl, hl1.trans (hl'.mono hl1.size)⟩
namespace modelTellsDone
open Go.ChangeShapes Go.WideShapes Go.ChangeAt Go.RowKit M
open Go.ChangeMaps (open_string shut_string)
set_option linter.unusedVariables false
set_option maxRecDepth 100000 in
theorem lifted (os : Os) (started : os.Started) (H : Type) (enc : TypeId × Value → H) :
    ReturnsInHanded {} Try.checked os 3 .any (Rows.modelTellsSpec.pre6 enc Try.prog Try.f3 Rows.modelTellsRow.domain false) (Rows.modelTellsSpec.post enc Try.prog Try.f3 false true false false) := by
  refine returnsInHanded_of_change (C := Try.checked) own started (by kernel_rfl) Try.func3
    (ChangeSpec.witness6 (enc := enc) (C := Try.checked) false ⟨#[], #[.slice none 0 0, .slice none 0 0, .agg #[.int .i64 0, .int .i64 0, .int .i64 0, .slice none 0 0]], []⟩ 8 (by kernel_rfl) (by kernel_rfl) (by kernel_rfl) (by kernel_rfl)) ?_
  intro W base args ds gs before hval0 hW hcnd _
  have hval : ∀ (j : Nat) t v, Try.f3.params[j]? = some t → args[j]? = some v → Value.okWide Try.prog W .any base t v := hval0
  have hW' := hW
  obtain ⟨p, q, hA0, hV, rfl, hfz, hnd⟩ := hW
  have hA : DataW.TrodAll enc Try.prog W 0 (fun _ => true) true Try.f3.params.toList args.toList ds p := hA0
  rw [Try.params3] at hA hval
  obtain ⟨v0, vs0, d0, ds0, p0, q0, hargs, rfl, rfl, h0, r0⟩ := trodAll_cons hA
  obtain ⟨v1, vs1, d1, ds1, p1, q1, rfl, rfl, rfl, h1, r1⟩ := trodAll_cons r0
  obtain ⟨v2, vs2, d2, ds2, p2, q2, rfl, rfl, rfl, h2, r2⟩ := trodAll_cons r1
  obtain ⟨rfl, rfl, rfl⟩ := trodAll_nil r2
  obtain rfl : args = #[v0, v1, v2] := by cases args; simp_all
  obtain ⟨rfl, rfl⟩ := trodVars_none hV
  obtain ⟨a0, len0, cap0, rfl⟩ := okWide_slice Try.underlying22 (hval 0 22 v0 rfl rfl)
  have k0 := h0
  have lt0 : ∀ x ∈ p0, x.block < W.heap.size := by obtain ⟨m, hm⟩ := k0; exact DataW.trod_lt m _ _ _ hm
  obtain ⟨fuel0, hf0⟩ := h0
  obtain ⟨b0, w0, l0⟩ := M.open_BB Try.underlying22 (by kernel_rfl) Try.underlying23 Try.underlying5 (by kernel_rfl) hf0
  obtain ⟨a1, len1, cap1, rfl⟩ := okWide_slice Try.underlying22 (hval 1 22 v1 rfl rfl)
  have k1 := h1
  have lt1 : ∀ x ∈ p1, x.block < W.heap.size := by obtain ⟨m, hm⟩ := k1; exact DataW.trod_lt m _ _ _ hm
  obtain ⟨fuel1, hf1⟩ := h1
  obtain ⟨b1, w1, l1⟩ := M.open_BB Try.underlying22 (by kernel_rfl) Try.underlying23 Try.underlying5 (by kernel_rfl) hf1
  obtain ⟨b2, w2⟩ := open_deed (hval 2 25 v2 rfl rfl) h2
  have k2 := h2
  have lt2 : ∀ x ∈ p2, x.block < W.heap.size := by obtain ⟨m, hm⟩ := k2; exact DataW.trod_lt m _ _ _ hm
  clear hA0 hval0
  refine (modelTells_walk b0 _ b1 _ b2 _ W w0 w1 w2).mono fun e W' ⟨he, bel⟩ => ?_
  subst he
  exact ⟨_, rfl, _, _, _, [], _, [], hW', trodAll_mk1 (shut_bool Try.underlying4 _), (trodAll_cons_mk (Below.trod laidOut (by kernel_rfl) (of_decide_eq_true (by kernel_rfl)) k0 bel lt0) (trodAll_cons_mk (Below.trod laidOut (by kernel_rfl) (of_decide_eq_true (by kernel_rfl)) k1 bel lt1) (trodAll_cons_mk (Below.trod laidOut (by kernel_rfl) (of_decide_eq_true (by kernel_rfl)) k2 bel lt2) trodAll_mk0))), rfl, bel.frame _, fun h => by cases h⟩
theorem over : Rows.modelTellsRow.holds Try.pinned (OpenSpec.ofChange Rows.modelTellsSpec) :=
  OpenClaim.holds_of_wide 3 Try.f3 rfl rfl rfl rfl rfl rfl rfl ⟨rfl, rfl, rfl, rfl, rfl⟩ rfl rfl rfl rfl rfl (by kernel_rfl) Try.func3 (by kernel_rfl)
    (of_decide_eq_true (by kernel_rfl)) (by unfold Func.isWrapper; first | (rw [if_pos (by decide +kernel)]; kernel_rfl) | (rw [if_neg (by decide +kernel)]; exact ⟨rfl, rfl⟩))
    (fun os started H enc _ => lifted os started H enc)
/-- The statement. -/
theorem proved : Rows.ModelTellsSaid := over
end modelTellsDone
end Go.Proofs.Ytlbnkoahkfhimaa

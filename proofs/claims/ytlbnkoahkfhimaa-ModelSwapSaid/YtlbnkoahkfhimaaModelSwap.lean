/- Chapter 5: ModelSwap holds for every input: the call returns true, and each argument reads behind it as it read before. -/
import Derived.Test.YtlbnkoahkfhimaaL5
import Derived.Test.YtlbnkoahkfhimaaOpen2
import Derived.Test.YtlbnkoahkfhimaaPure6
namespace Go.Proofs.Ytlbnkoahkfhimaa
set_option linter.unusedVariables false
open Go Go.RowKit M
theorem right_len {l : List Bs} (h : rightB l = true) : l.length = 9 := by unfold rightB at h; simp at h; exact h.2
set_option maxRecDepth 100000 in
set_option maxHeartbeats 1600000 in
theorem modelSwap_walk (l : List Bs) (vl : Value) (d : Deed) (vd : Value) (w : World) (hl : RdBB w (fun _ => True) vl l) (hd : RdD w (fun _ => True) vd d) :
    Calls Try.prog 5 #[vl, vd] w fun e w' => e = .returned (.bool true) ∧ Below w.heap.size w w' := by
  obtain ⟨dv, rfl, hdv⟩ := hd
  obtain ⟨Ad, cd, rfl, _, _⟩ := hdv.shape
  obtain ⟨Al, cl, rfl, _, _⟩ := hl.shape
  have hnew := Lib.hid (boxed4_new w (.int .i64 d.kind) (.int .i64 d.n) (.int .i64 d.m) (.slice Ad d.data.length cd) 25)
  have hnb := Lib.hid (below_alloc w (.cells #[.int .i64 d.kind, .int .i64 d.n, .int .i64 d.m, .slice Ad d.data.length cd] 25))
  go_enter Try.func5, Try.ntmps5
  go_wp2_with fail
  generalize w.alloc (.cells #[.int .i64 d.kind, .int .i64 d.n, .int .i64 d.m, .slice Ad d.data.length cd] 25) = w1 at *
  refine (law5_alive w1).mono ?_
  rintro e w2 ⟨rfl, hl2⟩
  replace hl := okBB.grow (okBB.grow hl hnb.out) hl2
  replace hdv := okB.grow (okB.grow hdv hnb.out) hl2
  have hx := Lib.hid (hnew.out.keep hl2 hnew.out.lt)
  replace hl2 := hnb.out.trans (hl2.mono hnb.out.size)
  clear hnew hnb
  obtain ⟨k0, k1, k2, k3, _⟩ := id hx.out
  by_cases hrl : rightB l = true
  rotate_left
  · replace hrl : rightB l = false := by simpa using hrl
    go_wp2_with fail
    refine (ref_RightBlocks l _ _ _ hl).mono ?_
    rintro e w2 ⟨rfl, rfl⟩
    rw [hrl]
    go_wp2
    go_ret
    exact ⟨rfl, hl2⟩
  have HLen := Lib.hid (right_len hrl)
  go_wp2_with fail
  refine (ref_RightBlocks l _ _ _ hl).mono ?_
  rintro e w3 ⟨rfl, rfl⟩
  rw [hrl]
  clear hrl
  go_wp2_with fail
  refine (model_Wrong d _ _ _ ⟨_, rfl, hdv⟩).mono ?_
  rintro e w3 ⟨rfl, hb3⟩
  replace hl := okBB.grow hl hb3
  replace hdv := okB.grow hdv hb3
  replace hx := Lib.hid (hx.out.keep hb3 hx.out.lt)
  replace hl2 := hl2.trans (hb3.mono hl2.size)
  clear k0 k1 k2 k3 hb3
  obtain ⟨k0, k1, k2, k3, _⟩ := id hx.out
  by_cases hr : wrongI d = 0
  rotate_left
  · have hne : (wrongI d != 0) = true := by simpa using hr
    clear hr
    go_wp2
    go_ret
    exact ⟨rfl, hl2⟩
  have HR := Lib.hid hr
  rw [hr]
  clear hr
  go_wp2_with fail
  refine (model_Do l d _ _ _ _ hl ⟨_, rfl, hdv⟩ HLen.out HR.out).mono ?_
  rintro e w4 ⟨vx, rfl, hvx, hb4⟩
  have hrx := okBB.mono (hvx.toRd_ okB) (F' := fun _ => True) fun _ _ => trivial
  replace hl := okBB.grow hl hb4
  replace hdv := okB.grow hdv hb4
  replace hx := Lib.hid (hx.out.keep hb4 hx.out.lt)
  replace hl2 := hl2.trans (hb4.mono hl2.size)
  clear k0 k1 k2 k3 hb4 hvx
  obtain ⟨k0, k1, k2, k3, _⟩ := id hx.out
  have HLx := Lib.hid (doD_len l d HLen.out)
  go_wp2_with fail
  refine (model_Do (doD l d) d _ _ _ _ hrx ⟨_, rfl, hdv⟩ HLx.out HR.out).mono ?_
  rintro e w5 ⟨vy, rfl, hvy, hb5⟩
  have hry := okBB.mono (hvy.toRd_ okB) (F' := fun _ => True) fun _ _ => trivial
  replace hl := okBB.grow hl hb5
  replace hrx := okBB.grow hrx hb5
  replace hdv := okB.grow hdv hb5
  replace hx := Lib.hid (hx.out.keep hb5 hx.out.lt)
  replace hl2 := hl2.trans (hb5.mono hl2.size)
  clear k0 k1 k2 k3 hb5 hvy
  obtain ⟨k0, k1, k2, k3, _⟩ := id hx.out
  by_cases hk : d.kind = 2
  · have hk' : (d.kind == 2) = true := by simpa using hk
    have HS := Lib.hid (doD_swap2 HR.out hk HLen.out)
    clear hk
    go_wp2_with fail
    refine (model_Same _ l _ _ _ _ hry hl).mono ?_
    rintro e w6 ⟨rfl, hb6⟩
    rw [HS.out, beq_self_eq_true]
    go_wp2
    go_ret
    exact ⟨rfl, hl2.trans (hb6.mono hl2.size)⟩
  · have hk' : (d.kind == 2) = false := by simpa using hk
    have hk1 : d.kind = 1 := by rcases (wrong_ok HR.out).2 with h | h; exact h.1; exact absurd h.1 hk
    have HS := Lib.hid (doD_write2 (l := l) hk1)
    obtain ⟨n0, n1⟩ := (wrong_ok HR.out).1
    obtain ⟨bx, ox, cx, rfl, _, _, _, _⟩ := hrx.form (by rw [HLx.out]; decide)
    obtain ⟨u, hu, hRu⟩ := RdL_q hrx (doD_write_at HR.out hk1 HLen.out)
    have hlx := HLx.out
    rw [hlx] at hrx ⊢
    obtain ⟨n, hn⟩ : ∃ n : Nat, d.n = n := ⟨d.n.toNat, by omega⟩
    rw [hn] at hu k1 ⊢
    have hn9 : n < 9 := by omega
    have hx2 := Lib.hid hx.out
    rw [hn] at hx2
    simp only [Int.toNat_natCast] at hu
    clear hk hk1 hlx n0 n1 hx hn
    go_wp2_with fail
    clear k0 k1 k2 k3
    refine region_list [Cv (vy), Cv (.slice (some ⟨bx, ox, none⟩) 9 cx), Cv (.bool true), Cv (.bool true), Cv (.slice (some ⟨bx, ox, none⟩) 9 cx), Cv (.pointer (some ⟨w.heap.size, 1, none⟩)), Cv (.int .i64 n), Cv (.pointer (some ⟨bx, ox + n, none⟩)), Cv (u), Cv (.string (strB d.data)), Cv (.pointer (some ⟨w.heap.size, 3, none⟩)), Cv (.slice Ad d.data.length cd), Cv (.string (strB d.data)), Cv (.bool true), Cv (.bool true), Cv (.bool true)] (by kernel_rfl) (by kernel_rfl) (by kernel_rfl) ?_ ?_ ?_
    · repeat (first | exact trivial | refine ⟨mC _, ?_⟩ | refine ⟨mR okB _, ?_⟩ | refine ⟨mT, ?_⟩ | refine ⟨mR okBB _, ?_⟩ | refine ⟨mR okBBB _, ?_⟩)
    · simp only [StepsL]
      refine ⟨?_, ?_, ?_, ?_, ?_, ?_, ?_, ?_, ?_, ?_, ?_, ?_, ?_, ?_, ?_, ?_, trivial⟩
      · intro ys wx hw hd K hK
        simp only [putL, Act.put, List.setIfInBounds_toArray, List.set_cons_zero, List.set_cons_succ, Nat.zero_add, Nat.reduceAdd] at hK ⊢
        rw [if_pos (by rfl)]
        go_simp
        exact hK _ _ (Below.refl _ _) rfl
      · intro ys wx hw hd K hK
        simp only [putL, Act.put, List.setIfInBounds_toArray, List.set_cons_zero, List.set_cons_succ, Nat.zero_add, Nat.reduceAdd] at hK ⊢
        rw [if_pos (by rfl)]
        go_simp
        exact hK _ _ (Below.refl _ _) rfl
      · intro ys wx hw hd K hK
        have e0 : ys 0 = _ := hd 0 (by decide)
        have e1 : ys 1 = _ := hd 1 (by decide)
        simp only [putL, Act.put, List.setIfInBounds_toArray, List.set_cons_zero, List.set_cons_succ, Nat.zero_add, Nat.reduceAdd, e0, e1] at hK ⊢
        rw [if_pos (by rfl)]
        go_simp
        refine (model_Same _ _ _ _ _ _ (okBB.grow hry hw) (okBB.grow hrx hw)).mono ?_
        rintro e w' ⟨rfl, hb'⟩
        exact hK _ _ hb' (by rw [HS.out, beq_self_eq_true]; rfl)
      · intro ys wx hw hd K hK
        have e2 : ys 2 = _ := hd 2 (by decide)
        simp only [putL, Act.put, List.setIfInBounds_toArray, List.set_cons_zero, List.set_cons_succ, Nat.zero_add, Nat.reduceAdd, e2] at hK ⊢
        rw [if_pos (by rfl)]
        go_simp
        exact hK _ _ (Below.refl _ _) rfl
      · intro ys wx hw hd K hK
        have e3 : ys 3 = _ := hd 3 (by decide)
        simp only [putL, Act.put, List.setIfInBounds_toArray, List.set_cons_zero, List.set_cons_succ, Nat.zero_add, Nat.reduceAdd, e3] at hK ⊢
        rw [if_pos (by rfl)]
        go_simp
        exact hK _ _ (Below.refl _ _) rfl
      · intro ys wx hw hd K hK
        have e3 : ys 3 = _ := hd 3 (by decide)
        simp only [putL, Act.put, List.setIfInBounds_toArray, List.set_cons_zero, List.set_cons_succ, Nat.zero_add, Nat.reduceAdd, e3] at hK ⊢
        rw [if_pos (by rfl)]
        go_simp
        exact hK _ _ (Below.refl _ _) rfl
      · intro ys wx hw hd K hK
        have e3 : ys 3 = _ := hd 3 (by decide)
        have e5 : ys 5 = _ := hd 5 (by decide)
        simp only [putL, Act.put, List.setIfInBounds_toArray, List.set_cons_zero, List.set_cons_succ, Nat.zero_add, Nat.reduceAdd, e3, e5] at hK ⊢
        rw [if_pos (by rfl)]
        obtain ⟨kb0, kb1, kb2, kb3, _⟩ := hx2.out.keep hw hx2.out.lt
        go_simp
        exact hK _ _ (Below.refl _ _) rfl
      · intro ys wx hw hd K hK
        have e3 : ys 3 = _ := hd 3 (by decide)
        have e4 : ys 4 = _ := hd 4 (by decide)
        have e6 : ys 6 = _ := hd 6 (by decide)
        simp only [putL, Act.put, List.setIfInBounds_toArray, List.set_cons_zero, List.set_cons_succ, Nat.zero_add, Nat.reduceAdd, e3, e4, e6] at hK ⊢
        rw [if_pos (by rfl)]
        have q1 : (n : Int) < 9 := by omega
        have q0 : (0 : Int) ≤ n := by omega
        have q2 : (n : Int).toNat = n := by omega
        go_simp
        exact hK _ _ (Below.refl _ _) rfl
      · intro ys wx hw hd K hK
        have e3 : ys 3 = _ := hd 3 (by decide)
        have e7 : ys 7 = _ := hd 7 (by decide)
        simp only [putL, Act.put, List.setIfInBounds_toArray, List.set_cons_zero, List.set_cons_succ, Nat.zero_add, Nat.reduceAdd, e3, e7] at hK ⊢
        rw [if_pos (by rfl)]
        have kx := (hw.cell (World.block_lt_of_cell? _ _ hu)).trans hu
        go_simp
        exact hK _ _ (Below.refl _ _) rfl
      · intro ys wx hw hd K hK
        have e3 : ys 3 = _ := hd 3 (by decide)
        have e8 : ys 8 = _ := hd 8 (by decide)
        simp only [putL, Act.put, List.setIfInBounds_toArray, List.set_cons_zero, List.set_cons_succ, Nat.zero_add, Nat.reduceAdd, e3, e8] at hK ⊢
        rw [if_pos (by rfl)]
        have hc := run_conv (okB.grow hRu hw) Try.underlying23 Try.underlying5 Try.underlying9
        go_simp
        exact hK _ _ (Below.refl _ _) rfl
      · intro ys wx hw hd K hK
        have e3 : ys 3 = _ := hd 3 (by decide)
        simp only [putL, Act.put, List.setIfInBounds_toArray, List.set_cons_zero, List.set_cons_succ, Nat.zero_add, Nat.reduceAdd, e3] at hK ⊢
        rw [if_pos (by rfl)]
        go_simp
        exact hK _ _ (Below.refl _ _) rfl
      · intro ys wx hw hd K hK
        have e3 : ys 3 = _ := hd 3 (by decide)
        have e10 : ys 10 = _ := hd 10 (by decide)
        simp only [putL, Act.put, List.setIfInBounds_toArray, List.set_cons_zero, List.set_cons_succ, Nat.zero_add, Nat.reduceAdd, e3, e10] at hK ⊢
        rw [if_pos (by rfl)]
        obtain ⟨kb0, kb1, kb2, kb3, _⟩ := hx2.out.keep hw hx2.out.lt
        go_simp
        exact hK _ _ (Below.refl _ _) rfl
      · intro ys wx hw hd K hK
        have e3 : ys 3 = _ := hd 3 (by decide)
        have e11 : ys 11 = _ := hd 11 (by decide)
        simp only [putL, Act.put, List.setIfInBounds_toArray, List.set_cons_zero, List.set_cons_succ, Nat.zero_add, Nat.reduceAdd, e3, e11] at hK ⊢
        rw [if_pos (by rfl)]
        have hc := run_conv (okB.grow hdv hw) Try.underlying23 Try.underlying5 Try.underlying9
        go_simp
        exact hK _ _ (Below.refl _ _) rfl
      · intro ys wx hw hd K hK
        have e3 : ys 3 = _ := hd 3 (by decide)
        have e9 : ys 9 = _ := hd 9 (by decide)
        have e12 : ys 12 = _ := hd 12 (by decide)
        simp only [putL, Act.put, List.setIfInBounds_toArray, List.set_cons_zero, List.set_cons_succ, Nat.zero_add, Nat.reduceAdd, e3, e9, e12] at hK ⊢
        rw [if_pos (by rfl)]
        go_simp
        exact hK _ _ (Below.refl _ _) rfl
      · intro ys wx hw hd K hK
        have e3 : ys 3 = _ := hd 3 (by decide)
        have e13 : ys 13 = _ := hd 13 (by decide)
        simp only [putL, Act.put, List.setIfInBounds_toArray, List.set_cons_zero, List.set_cons_succ, Nat.zero_add, Nat.reduceAdd, e3, e13] at hK ⊢
        rw [if_pos (by rfl)]
        go_simp
        exact hK _ _ (Below.refl _ _) rfl
      · intro ys wx hw hd K hK
        have e14 : ys 14 = _ := hd 14 (by decide)
        simp only [putL, Act.put, List.setIfInBounds_toArray, List.set_cons_zero, List.set_cons_succ, Nat.zero_add, Nat.reduceAdd, e14] at hK ⊢
        rw [if_pos (by rfl)]
        go_simp
        exact hK _ _ (Below.refl _ _) rfl
    · intro ys w' hl' hV
      have e15 : ys 15 = _ := hV 15 (by decide)
      clear hV
      simp only [putL, Act.put, List.setIfInBounds_toArray, List.set_cons_zero, List.set_cons_succ, Nat.zero_add, Nat.reduceAdd, e15]
      clear e15
      go_wp2
      go_ret
      exact ⟨rfl, hl2.trans (hl'.mono hl2.size)⟩
namespace modelSwapDone
open Go.ChangeShapes Go.WideShapes Go.ChangeAt Go.RowKit M
open Go.ChangeMaps (open_string shut_string)
set_option linter.unusedVariables false
set_option maxRecDepth 100000 in
theorem lifted (os : Os) (started : os.Started) (H : Type) (enc : TypeId × Value → H) :
    ReturnsInHanded {} Try.checked os 5 .any (Rows.modelSwapSpec.pre6 enc Try.prog Try.f5 Rows.modelSwapRow.domain false) (Rows.modelSwapSpec.post enc Try.prog Try.f5 false true false false) := by
  refine returnsInHanded_of_change (C := Try.checked) own started (by kernel_rfl) Try.func5
    (ChangeSpec.witness6 (enc := enc) (C := Try.checked) false ⟨#[], #[.slice none 0 0, .agg #[.int .i64 0, .int .i64 0, .int .i64 0, .slice none 0 0]], []⟩ 8 (by kernel_rfl) (by kernel_rfl) (by kernel_rfl) (by kernel_rfl)) ?_
  intro W base args ds gs before hval0 hW hcnd _
  have hval : ∀ (j : Nat) t v, Try.f5.params[j]? = some t → args[j]? = some v → Value.okWide Try.prog W .any base t v := hval0
  have hW' := hW
  obtain ⟨p, q, hA0, hV, rfl, hfz, hnd⟩ := hW
  have hA : DataW.TrodAll enc Try.prog W 0 (fun _ => true) true Try.f5.params.toList args.toList ds p := hA0
  rw [Try.params5] at hA hval
  obtain ⟨v0, vs0, d0, ds0, p0, q0, hargs, rfl, rfl, h0, r0⟩ := trodAll_cons hA
  obtain ⟨v1, vs1, d1, ds1, p1, q1, rfl, rfl, rfl, h1, r1⟩ := trodAll_cons r0
  obtain ⟨rfl, rfl, rfl⟩ := trodAll_nil r1
  obtain rfl : args = #[v0, v1] := by cases args; simp_all
  obtain ⟨rfl, rfl⟩ := trodVars_none hV
  obtain ⟨a0, len0, cap0, rfl⟩ := okWide_slice Try.underlying22 (hval 0 22 v0 rfl rfl)
  have k0 := h0
  have lt0 : ∀ x ∈ p0, x.block < W.heap.size := by obtain ⟨m, hm⟩ := k0; exact DataW.trod_lt m _ _ _ hm
  obtain ⟨fuel0, hf0⟩ := h0
  obtain ⟨b0, w0, l0⟩ := M.open_BB Try.underlying22 (by kernel_rfl) Try.underlying23 Try.underlying5 (by kernel_rfl) hf0
  obtain ⟨b1, w1⟩ := open_deed (hval 1 25 v1 rfl rfl) h1
  have k1 := h1
  have lt1 : ∀ x ∈ p1, x.block < W.heap.size := by obtain ⟨m, hm⟩ := k1; exact DataW.trod_lt m _ _ _ hm
  clear hA0 hval0
  refine (modelSwap_walk b0 _ b1 _ W w0 w1).mono fun e W' ⟨he, bel⟩ => ?_
  subst he
  exact ⟨_, rfl, _, _, _, [], _, [], hW', trodAll_mk1 (shut_bool Try.underlying4 _), (trodAll_cons_mk (Below.trod laidOut (by kernel_rfl) (of_decide_eq_true (by kernel_rfl)) k0 bel lt0) (trodAll_cons_mk (Below.trod laidOut (by kernel_rfl) (of_decide_eq_true (by kernel_rfl)) k1 bel lt1) trodAll_mk0)), rfl, bel.frame _, fun h => by cases h⟩
theorem over : Rows.modelSwapRow.holds Try.pinned (OpenSpec.ofChange Rows.modelSwapSpec) :=
  OpenClaim.holds_of_wide 5 Try.f5 rfl rfl rfl rfl rfl rfl rfl ⟨rfl, rfl, rfl, rfl, rfl⟩ rfl rfl rfl rfl rfl (by kernel_rfl) Try.func5 (by kernel_rfl)
    (of_decide_eq_true (by kernel_rfl)) (by unfold Func.isWrapper; first | (rw [if_pos (by decide +kernel)]; kernel_rfl) | (rw [if_neg (by decide +kernel)]; exact ⟨rfl, rfl⟩))
    (fun os started H enc _ => lifted os started H enc)
/-- The statement. -/
theorem proved : Rows.ModelSwapSaid := over
end modelSwapDone
end Go.Proofs.Ytlbnkoahkfhimaa

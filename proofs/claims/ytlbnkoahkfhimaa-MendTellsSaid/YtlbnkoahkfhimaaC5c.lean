/- Chapter 5: what model.Do computes. -/
import Derived.Test.YtlbnkoahkfhimaaC5b
import Derived.Test.YtlbnkoahkfhimaaRegion2
namespace Go.Proofs.Ytlbnkoahkfhimaa
set_option linter.unusedVariables false
open Go Go.RowKit M
set_option maxRecDepth 100000 in
set_option maxHeartbeats 400000 in
theorem model_Do_write (l : List Bs) (d : Deed) (v vd : Value) (F : Fp) (w : World) (h : RdBB w F v l) (hd : RdD w F vd d) (hl : l.length = 9) (hr : wrongI d = 0) (hk : d.kind = 1) :
    Calls Try.prog 22 #[v, vd] w fun e w' => ∃ v', e = .returned v' ∧ Bld RdB 23 w' w.heap.size (fun _ => True) v' (doD l d) ∧ Below w.heap.size w w' := by
  obtain ⟨⟨n0, n1⟩, hq⟩ := wrong_ok hr
  have hdl : d.data.length = 4 := by omega
  obtain ⟨n, hn⟩ : ∃ n : Nat, d.n = n := ⟨d.n.toNat, by omega⟩
  have hdo : doD l d = l.set n d.data := by unfold doD; rw [if_pos hk, hn]; simp
  rw [hdo]
  have hn9 : n < 9 := by omega
  obtain ⟨dv, rfl, hdv⟩ := hd
  rw [hk, hn]
  obtain ⟨A, c, rfl, _, _⟩ := h.shape
  obtain ⟨Ad, cd, rfl, _, _⟩ := hdv.shape
  have hnew := Lib.hid (boxed4_new w (.int .i64 1) (.int .i64 n) (.int .i64 d.m) (.slice Ad d.data.length cd) 25)
  have hnb := Lib.hid (below_alloc w (.cells #[.int .i64 1, .int .i64 n, .int .i64 d.m, .slice Ad d.data.length cd] 25))
  have HL := Lib.hid hl
  have HDL := Lib.hid hdl
  clear hdo hq hr hk hn n0 n1 hl hdl
  go_enter Try.func22, Try.ntmps22
  go_wp2_with fail
  refine (clone_BB l _ F _ (okBB.grow h hnb.out) (by have := HL.out; omega)).mono ?_
  rintro e w1 ⟨v1, rfl, hO, hb1⟩
  have hx1 := Lib.hid (Boxed4.keep hnew.out hb1 hnew.out.lt)
  have hnb1 := Lib.hid (Below.trans hnb.out (hb1.mono hnb.out.size))
  rw [alloc_size] at hO hb1
  have hdv1 := okB.old hdv hnb1.out (G := fun k => k < w.heap.size) fun _ _ hk => hk
  obtain ⟨g, c1, rfl, hg0, hg1, hc1, hc2⟩ := hO.form (by rw [HL.out]; omega)
  rw [HL.out] at hO hc1 ⊢
  have hOI : Hid (Bld RdB 23 w1 (w.heap.size + 1) (fun _ => True) (.slice (some ⟨g, 0, none⟩) 9 c1) l) := hO
  clear hO h hdv
  obtain ⟨k0, k1, k2, k3, _⟩ := id hx1.out
  go_wp2_with fail
  clear k0 k1 k2 k3
  refine region_three (w.heap.size + 1) [Ck (.slice (some ⟨g, 0, none⟩) 9 c1), Ck (.pointer (some ⟨w.heap.size, 1, none⟩)), Ck (.int .i64 n), Ck (.pointer (some ⟨w.heap.size, 3, none⟩)), Ck (.slice Ad d.data.length cd), Ek 0 (Rn RdB g d.data), Ck (.pointer (some ⟨g, n, none⟩)), Tk] (fun m wx => Bld RdB 23 wx (w.heap.size + 1) (fun _ => True) (.slice (some ⟨g, 0, none⟩) 9 c1) (if m = 0 then l else l.set n d.data)) [7] (by kernel_rfl) (by kernel_rfl) (by kernel_rfl) (by kernel_rfl) (by kernel_rfl) ?_ ?_ (fun m w w' hb h => h.grow okB hb) (hOI.out) ?_ ?_
  · first | exact Nat.le_refl _ | assumption | omega
  · repeat (first | exact trivial | refine ⟨mCk _, ?_⟩ | refine ⟨mTk, ?_⟩ | refine ⟨mEk _ (by first | exact mC _ | exact mT | exact mR okB _ | exact mR okBB _ | exact mR okBBB _ | exact mRn okB _ _ | exact mRn okBB _ _ | exact mOw _ _ _ _ | exact mRm okB _ _ _), ?_⟩ | refine ⟨mFk _ (by first | exact mC _ | exact mT | exact mR okB _ | exact mR okBB _ | exact mR okBBB _ | exact mRn okB _ _ | exact mRn okBB _ _ | exact mOw _ _ _ _ | exact mRm okB _ _ _), ?_⟩ | refine ⟨fun _ => (by first | exact mC _ | exact mT | exact mR okB _ | exact mR okBB _ | exact mR okBBB _ | exact mRn okB _ _ | exact mRn okBB _ _ | exact mOw _ _ _ _ | exact mRm okB _ _ _), ?_⟩)
  · simp only [StepsL3]
    refine ⟨?_, ?_, ?_, ?_, ?_, ?_, ?_, ?_, trivial⟩
    · refine @id (StepG _ _ _ _ _ _ _ _ _ _ _) ?_
      intro nst ys wx hn hmay hw hS hd
      intro K hK
      simp only [putL, Act.put, List.setIfInBounds_toArray, List.set_cons_zero, List.set_cons_succ, Nat.zero_add, Nat.reduceAdd] at hK ⊢
      rw [if_pos (by rfl)]
      go_simp
      exact hK _ _ (Below.refl _ _) rfl
    · refine @id (StepG _ _ _ _ _ _ _ _ _ _ _) ?_
      intro nst ys wx hn hmay hw hS hd
      intro K hK
      simp only [putL, Act.put, List.setIfInBounds_toArray, List.set_cons_zero, List.set_cons_succ, Nat.zero_add, Nat.reduceAdd] at hK ⊢
      rw [if_pos (by rfl)]
      go_simp
      exact hK _ _ (Below.refl _ _) rfl
    · refine @id (StepG _ _ _ _ _ _ _ _ _ _ _) ?_
      intro nst ys wx hn hmay hw hS hd
      intro K hK
      have e1 : ys 1 = _ := hd 1 (by decide)
      simp only [putL, Act.put, List.setIfInBounds_toArray, List.set_cons_zero, List.set_cons_succ, Nat.zero_add, Nat.reduceAdd, e1] at hK ⊢
      rw [if_pos (by rfl)]
      have kx := (hx1.out.keep hw (Nat.lt_succ_self _)).c1
      go_simp
      exact hK _ _ (Below.refl _ _) rfl
    · refine @id (StepG _ _ _ _ _ _ _ _ _ _ _) ?_
      intro nst ys wx hn hmay hw hS hd
      intro K hK
      simp only [putL, Act.put, List.setIfInBounds_toArray, List.set_cons_zero, List.set_cons_succ, Nat.zero_add, Nat.reduceAdd] at hK ⊢
      rw [if_pos (by rfl)]
      go_simp
      exact hK _ _ (Below.refl _ _) rfl
    · refine @id (StepG _ _ _ _ _ _ _ _ _ _ _) ?_
      intro nst ys wx hn hmay hw hS hd
      intro K hK
      have e3 : ys 3 = _ := hd 3 (by decide)
      simp only [putL, Act.put, List.setIfInBounds_toArray, List.set_cons_zero, List.set_cons_succ, Nat.zero_add, Nat.reduceAdd, e3] at hK ⊢
      rw [if_pos (by rfl)]
      have kx := (hx1.out.keep hw (Nat.lt_succ_self _)).c3
      go_simp
      exact hK _ _ (Below.refl _ _) rfl
    · refine @id (StepG _ _ _ _ _ _ _ _ _ _ _) ?_
      intro nst ys wx hn hmay hw hS hd
      obtain rfl : nst = 0 := may_one hmay hn (by kernel_rfl)
      intro K hK
      have e4 : ys 4 = _ := hd 4 (by decide)
      simp only [putL, Act.put, List.setIfInBounds_toArray, List.set_cons_zero, List.set_cons_succ, Nat.zero_add, Nat.reduceAdd, e4] at hK ⊢
      rw [if_pos (by rfl)]
      go_simp
      refine (clone_B d.data _ _ _ (okB.below hdv1 hw fun k hk _ => Nat.lt_succ_of_lt hk) (by have := HDL.out; omega)).mono ?_
      rintro e w' ⟨v', rfl, hv', hb'⟩
      have hgx := (hS.blk g rfl).2
      exact hK _ _ hb' (okB.lt ((hv'.bytes (G' := fun k => wx.heap.size ≤ k)).toRd ok8 (F := fun k => wx.heap.size ≤ k) (fun k hk => hk) (fun k hk => hk)) |> fun h => okB.mono h fun k hk => ⟨by omega, hk.2⟩)
    · refine @id (StepG _ _ _ _ _ _ _ _ _ _ _) ?_
      intro nst ys wx hn hmay hw hS hd
      intro K hK
      have e0 : ys 0 = _ := hd 0 (by decide)
      have e2 : ys 2 = _ := hd 2 (by decide)
      simp only [putL, Act.put, List.setIfInBounds_toArray, List.set_cons_zero, List.set_cons_succ, Nat.zero_add, Nat.reduceAdd, e0, e2] at hK ⊢
      rw [if_pos (by rfl)]
      have q1 : (n : Int) < 9 := by omega
      have q0 : (0 : Int) ≤ n := by omega
      have q2 : (n : Int).toNat = n := by omega
      go_simp
      exact hK _ _ (Below.refl _ _) rfl
    · refine @id (StepS _ _ _ _ _ _ _ _ _ _ _) ?_
      intro ys wx hw hS hd K hK
      have k5 := hd 5 (by decide)
      change (Rn RdB g d.data) wx (ys 5) at k5
      have e6 : ys 6 = _ := hd 6 (by decide)
      simp only [putL, Act.put, List.setIfInBounds_toArray, List.set_cons_zero, List.set_cons_succ, Nat.zero_add, Nat.reduceAdd, e6] at hK ⊢
      rw [if_pos (by rfl)]
      have hS0 : Bld RdB 23 wx (w.heap.size + 1) (fun _ => True) (.slice (some ⟨g, 0, none⟩) 9 c1) l := hS
      have hnl : n < l.length := by have := HL.out; omega
      obtain ⟨u, hu, hfz, _⟩ := hS0.at_ hnl
      have hset := hS0.set_ okB hnl (u := ys 5) (x := d.data) (okB.mono k5 fun k hk => ⟨hk.1, trivial⟩)
      have hbs := (Below.refl (w.heap.size + 1) wx).setCell (p := ⟨g, n, none⟩) hg0 (ys 5)
      have h1c := okB.one k5
      generalize ys 5 = y5 at *
      obtain ⟨A5, c5, rfl, _, _⟩ := RdL.shape k5
      clear k5 h1c
      go_simp
      exact hK undef _ hbs hset trivial ⟨fun _ h => h, fun _ h => h, fun _ h => h, fun _ h => h, fun _ h => h, fun _ _ => trivial, fun _ h => h, fun _ h => h, trivial⟩
  · intro ys w' hl' hS' hV
    clear hV
    simp only [putL, Act.put, List.setIfInBounds_toArray, List.set_cons_zero, List.set_cons_succ, Nat.zero_add, Nat.reduceAdd]
    have hfin : Bld RdB 23 w' (w.heap.size + 1) (fun _ => True) (.slice (some ⟨g, 0, none⟩) 9 c1) (l.set n d.data) := hS'
    have HF := Lib.hid (hfin.base_ (b := w.heap.size) (Nat.le_succ _))
    have HBl := Lib.hid (hnb1.out.trans (hl'.mono (Nat.le_succ _)))
    clear hfin hS' hl'
    go_wp2
    go_ret
    exact ⟨_, rfl, HF.out, HBl.out⟩
end Go.Proofs.Ytlbnkoahkfhimaa

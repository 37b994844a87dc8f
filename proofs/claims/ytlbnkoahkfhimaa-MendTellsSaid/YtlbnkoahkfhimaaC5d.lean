/- Chapter 5: what model.Do computes where two blocks change. -/
import Derived.Test.YtlbnkoahkfhimaaC5c
import Derived.Test.YtlbnkoahkfhimaaRegion2
namespace Go.Proofs.Ytlbnkoahkfhimaa
set_option linter.unusedVariables false
open Go Go.RowKit M
set_option maxRecDepth 100000 in
set_option maxHeartbeats 400000 in
theorem model_Do_swap (l : List Bs) (d : Deed) (v vd : Value) (F : Fp) (w : World) (h : RdBB w F v l) (hd : RdD w F vd d) (hl : l.length = 9) (hr : wrongI d = 0) (hk : d.kind = 2) :
    Calls Try.prog 22 #[v, vd] w fun e w' => ∃ v', e = .returned v' ∧ Bld RdB 23 w' w.heap.size (fun _ => True) v' (doD l d) ∧ Below w.heap.size w w' := by
  obtain ⟨⟨n0, n1⟩, hq⟩ := wrong_ok hr
  obtain ⟨m0, m1⟩ : InB d.m := by omega
  obtain ⟨n, hn⟩ : ∃ n : Nat, d.n = n := ⟨d.n.toNat, by omega⟩
  obtain ⟨m, hm⟩ : ∃ m : Nat, d.m = m := ⟨d.m.toNat, by omega⟩
  have hnl : n < l.length := by omega
  have hml : m < l.length := by omega
  obtain ⟨ln, hln⟩ : ∃ x, x = l[n] := ⟨_, rfl⟩
  obtain ⟨lm, hlm⟩ : ∃ x, x = l[m] := ⟨_, rfl⟩
  have hdo : doD l d = (l.set n lm).set m ln := by unfold doD; rw [if_neg (by omega), hn, hm, hln, hlm]; simp [List.getD, hnl, hml]
  rw [hdo]
  have hn9 : n < 9 := by omega
  have hm9 : m < 9 := by omega
  obtain ⟨dv, rfl, hdv⟩ := hd
  rw [hk, hn, hm]
  obtain ⟨A, c, rfl, _, _⟩ := h.shape
  obtain ⟨Ad, cd, rfl, _, _⟩ := hdv.shape
  have hnew := Lib.hid (boxed4_new w (.int .i64 2) (.int .i64 n) (.int .i64 m) (.slice Ad d.data.length cd) 25)
  have hnb := Lib.hid (below_alloc w (.cells #[.int .i64 2, .int .i64 n, .int .i64 m, .slice Ad d.data.length cd] 25))
  have HL := Lib.hid hl
  clear hdo hq hr hk hn n0 n1 m0 m1 hm hl hdv
  go_enter Try.func22, Try.ntmps22
  go_wp2_with fail
  refine (clone_BB_old l _ F _ (okBB.grow h hnb.out) (by have := HL.out; omega)).mono ?_
  rintro e w1 ⟨v1, rfl, hO, hb1⟩
  have hx1 := Lib.hid (Boxed4.keep hnew.out hb1 hnew.out.lt)
  have hnb1 := Lib.hid (Below.trans hnb.out (hb1.mono hnb.out.size))
  rw [alloc_size] at hO hb1
  obtain ⟨g, c1, rfl, hg0, hg1, hc1, hc2⟩ := hO.form (by omega)
  rw [HL.out] at hO hc1 ⊢
  obtain ⟨un, hun, _, hRn⟩ := hO.at_ hnl
  obtain ⟨um, hum, _, hRm⟩ := hO.at_ hml
  obtain ⟨An, cn, rfl, _, _⟩ := hRn.shape
  obtain ⟨Am, cm, rfl, _, _⟩ := hRm.shape
  rw [← hln] at hRn hun
  rw [← hlm] at hRm hum
  clear hln hlm
  have hOI : Hid (Bld RdB 23 w1 (w.heap.size + 1) (fun _ => True) (.slice (some ⟨g, 0, none⟩) 9 c1) l) := hO.mono okB fun _ _ _ => trivial
  have HUN := Lib.hid hun
  have HUM := Lib.hid hum
  clear hO h hun hum
  obtain ⟨k0, k1, k2, k3, _⟩ := id hx1.out
  go_wp2_with fail
  clear k0 k1 k2 k3
  refine region_three (w.heap.size + 1) [Ck (.slice (some ⟨g, 0, none⟩) 9 c1), Ck (.pointer (some ⟨w.heap.size, 1, none⟩)), Ck (.int .i64 n), Ck (.slice (some ⟨g, 0, none⟩) 9 c1), Ck (.pointer (some ⟨w.heap.size, 2, none⟩)), Ck (.int .i64 m), Ck (.slice (some ⟨g, 0, none⟩) 9 c1), Ck (.pointer (some ⟨w.heap.size, 2, none⟩)), Ck (.int .i64 m), Ck (.pointer (some ⟨g, m, none⟩)), Ck (.slice Am lm.length cm), Ck (.slice (some ⟨g, 0, none⟩) 9 c1), Ck (.pointer (some ⟨w.heap.size, 1, none⟩)), Ck (.int .i64 n), Ck (.pointer (some ⟨g, n, none⟩)), Ck (.slice An ln.length cn), Ck (.pointer (some ⟨g, n, none⟩)), Tk, Ck (.pointer (some ⟨g, m, none⟩)), Tk] (fun q wx => Bld RdB 23 wx (w.heap.size + 1) (fun _ => True) (.slice (some ⟨g, 0, none⟩) 9 c1) (if q = 0 then l else if q = 1 then l.set n lm else (l.set n lm).set m ln) ∧ (q = 0 → wx.cell? ⟨g, n, none⟩ = some (.slice An ln.length cn) ∧ wx.cell? ⟨g, m, none⟩ = some (.slice Am lm.length cm))) [17, 19] (by kernel_rfl) (by kernel_rfl) (by kernel_rfl) (by kernel_rfl) (by kernel_rfl) ?_ ?_ (fun q w w' hb h => ⟨h.1.grow okB hb, fun hq => ⟨(hb.cell (h.1.blk g rfl).2).trans (h.2 hq).1, (hb.cell (h.1.blk g rfl).2).trans (h.2 hq).2⟩⟩) (⟨hOI.out, fun _ => ⟨HUN.out, HUM.out⟩⟩) ?_ ?_
  · first | exact Nat.le_refl _ | assumption | omega
  · repeat (first | exact trivial | refine ⟨mCk _, ?_⟩ | refine ⟨mTk, ?_⟩ | refine ⟨mEk _ (by first | exact mC _ | exact mT | exact mR okB _ | exact mR okBB _ | exact mR okBBB _ | exact mRn okB _ _ | exact mRn okBB _ _ | exact mOw _ _ _ _ | exact mRm okB _ _ _), ?_⟩ | refine ⟨mFk _ (by first | exact mC _ | exact mT | exact mR okB _ | exact mR okBB _ | exact mR okBBB _ | exact mRn okB _ _ | exact mRn okBB _ _ | exact mOw _ _ _ _ | exact mRm okB _ _ _), ?_⟩ | refine ⟨fun _ => (by first | exact mC _ | exact mT | exact mR okB _ | exact mR okBB _ | exact mR okBBB _ | exact mRn okB _ _ | exact mRn okBB _ _ | exact mOw _ _ _ _ | exact mRm okB _ _ _), ?_⟩)
  · simp only [StepsL3]
    refine ⟨?_, ?_, ?_, ?_, ?_, ?_, ?_, ?_, ?_, ?_, ?_, ?_, ?_, ?_, ?_, ?_, ?_, ?_, ?_, ?_, trivial⟩
    · refine @id (StepG _ _ _ _ _ _ _ _ _ _ _) ?_
      intro nst ys wx hn hmay hw hS hd
      intro K hK
      simp only [putL, Act.put, List.setIfInBounds_toArray, List.set_cons_zero, List.set_cons_succ, Nat.zero_add, Nat.reduceAdd] at hK ⊢
      rw [if_pos (by rfl)]
      go_simp
      exact hK _ _ (Below.refl _ _) rfl
    · refine @id (StepG _ _ _ _ _ _ _ _ _ _ _) ?_
      intro nst ys wx hn hmay hw hS hd
      intro K hK
      simp only [putL, Act.put, List.setIfInBounds_toArray, List.set_cons_zero, List.set_cons_succ, Nat.zero_add, Nat.reduceAdd] at hK ⊢
      rw [if_pos (by rfl)]
      go_simp
      exact hK _ _ (Below.refl _ _) rfl
    · refine @id (StepG _ _ _ _ _ _ _ _ _ _ _) ?_
      intro nst ys wx hn hmay hw hS hd
      intro K hK
      have e1 : ys 1 = _ := hd 1 (by decide)
      simp only [putL, Act.put, List.setIfInBounds_toArray, List.set_cons_zero, List.set_cons_succ, Nat.zero_add, Nat.reduceAdd, e1] at hK ⊢
      rw [if_pos (by rfl)]
      have kx := (hx1.out.keep hw (Nat.lt_succ_self _)).c1
      go_simp
      exact hK _ _ (Below.refl _ _) rfl
    · refine @id (StepG _ _ _ _ _ _ _ _ _ _ _) ?_
      intro nst ys wx hn hmay hw hS hd
      intro K hK
      simp only [putL, Act.put, List.setIfInBounds_toArray, List.set_cons_zero, List.set_cons_succ, Nat.zero_add, Nat.reduceAdd] at hK ⊢
      rw [if_pos (by rfl)]
      go_simp
      exact hK _ _ (Below.refl _ _) rfl
    · refine @id (StepG _ _ _ _ _ _ _ _ _ _ _) ?_
      intro nst ys wx hn hmay hw hS hd
      intro K hK
      simp only [putL, Act.put, List.setIfInBounds_toArray, List.set_cons_zero, List.set_cons_succ, Nat.zero_add, Nat.reduceAdd] at hK ⊢
      rw [if_pos (by rfl)]
      go_simp
      exact hK _ _ (Below.refl _ _) rfl
    · refine @id (StepG _ _ _ _ _ _ _ _ _ _ _) ?_
      intro nst ys wx hn hmay hw hS hd
      intro K hK
      have e4 : ys 4 = _ := hd 4 (by decide)
      simp only [putL, Act.put, List.setIfInBounds_toArray, List.set_cons_zero, List.set_cons_succ, Nat.zero_add, Nat.reduceAdd, e4] at hK ⊢
      rw [if_pos (by rfl)]
      have kx := (hx1.out.keep hw (Nat.lt_succ_self _)).c2
      go_simp
      exact hK _ _ (Below.refl _ _) rfl
    · refine @id (StepG _ _ _ _ _ _ _ _ _ _ _) ?_
      intro nst ys wx hn hmay hw hS hd
      intro K hK
      simp only [putL, Act.put, List.setIfInBounds_toArray, List.set_cons_zero, List.set_cons_succ, Nat.zero_add, Nat.reduceAdd] at hK ⊢
      rw [if_pos (by rfl)]
      go_simp
      exact hK _ _ (Below.refl _ _) rfl
    · refine @id (StepG _ _ _ _ _ _ _ _ _ _ _) ?_
      intro nst ys wx hn hmay hw hS hd
      intro K hK
      simp only [putL, Act.put, List.setIfInBounds_toArray, List.set_cons_zero, List.set_cons_succ, Nat.zero_add, Nat.reduceAdd] at hK ⊢
      rw [if_pos (by rfl)]
      go_simp
      exact hK _ _ (Below.refl _ _) rfl
    · refine @id (StepG _ _ _ _ _ _ _ _ _ _ _) ?_
      intro nst ys wx hn hmay hw hS hd
      intro K hK
      have e7 : ys 7 = _ := hd 7 (by decide)
      simp only [putL, Act.put, List.setIfInBounds_toArray, List.set_cons_zero, List.set_cons_succ, Nat.zero_add, Nat.reduceAdd, e7] at hK ⊢
      rw [if_pos (by rfl)]
      have kx := (hx1.out.keep hw (Nat.lt_succ_self _)).c2
      go_simp
      exact hK _ _ (Below.refl _ _) rfl
    · refine @id (StepG _ _ _ _ _ _ _ _ _ _ _) ?_
      intro nst ys wx hn hmay hw hS hd
      intro K hK
      have e6 : ys 6 = _ := hd 6 (by decide)
      have e8 : ys 8 = _ := hd 8 (by decide)
      simp only [putL, Act.put, List.setIfInBounds_toArray, List.set_cons_zero, List.set_cons_succ, Nat.zero_add, Nat.reduceAdd, e6, e8] at hK ⊢
      rw [if_pos (by rfl)]
      have q1 : (m : Int) < 9 := by omega
      have q0 : (0 : Int) ≤ m := by omega
      have q2 : (m : Int).toNat = m := by omega
      go_simp
      exact hK _ _ (Below.refl _ _) rfl
    · refine @id (StepG _ _ _ _ _ _ _ _ _ _ _) ?_
      intro nst ys wx hn hmay hw hS hd
      obtain rfl : nst = 0 := may_one hmay hn (by kernel_rfl)
      intro K hK
      have e9 : ys 9 = _ := hd 9 (by decide)
      simp only [putL, Act.put, List.setIfInBounds_toArray, List.set_cons_zero, List.set_cons_succ, Nat.zero_add, Nat.reduceAdd, e9] at hK ⊢
      rw [if_pos (by rfl)]
      have kx := (hS.2 rfl).2
      go_simp
      exact hK _ _ (Below.refl _ _) rfl
    · refine @id (StepG _ _ _ _ _ _ _ _ _ _ _) ?_
      intro nst ys wx hn hmay hw hS hd
      intro K hK
      simp only [putL, Act.put, List.setIfInBounds_toArray, List.set_cons_zero, List.set_cons_succ, Nat.zero_add, Nat.reduceAdd] at hK ⊢
      rw [if_pos (by rfl)]
      go_simp
      exact hK _ _ (Below.refl _ _) rfl
    · refine @id (StepG _ _ _ _ _ _ _ _ _ _ _) ?_
      intro nst ys wx hn hmay hw hS hd
      intro K hK
      simp only [putL, Act.put, List.setIfInBounds_toArray, List.set_cons_zero, List.set_cons_succ, Nat.zero_add, Nat.reduceAdd] at hK ⊢
      rw [if_pos (by rfl)]
      go_simp
      exact hK _ _ (Below.refl _ _) rfl
    · refine @id (StepG _ _ _ _ _ _ _ _ _ _ _) ?_
      intro nst ys wx hn hmay hw hS hd
      intro K hK
      have e12 : ys 12 = _ := hd 12 (by decide)
      simp only [putL, Act.put, List.setIfInBounds_toArray, List.set_cons_zero, List.set_cons_succ, Nat.zero_add, Nat.reduceAdd, e12] at hK ⊢
      rw [if_pos (by rfl)]
      have kx := (hx1.out.keep hw (Nat.lt_succ_self _)).c1
      go_simp
      exact hK _ _ (Below.refl _ _) rfl
    · refine @id (StepG _ _ _ _ _ _ _ _ _ _ _) ?_
      intro nst ys wx hn hmay hw hS hd
      intro K hK
      have e11 : ys 11 = _ := hd 11 (by decide)
      have e13 : ys 13 = _ := hd 13 (by decide)
      simp only [putL, Act.put, List.setIfInBounds_toArray, List.set_cons_zero, List.set_cons_succ, Nat.zero_add, Nat.reduceAdd, e11, e13] at hK ⊢
      rw [if_pos (by rfl)]
      have q1 : (n : Int) < 9 := by omega
      have q0 : (0 : Int) ≤ n := by omega
      have q2 : (n : Int).toNat = n := by omega
      go_simp
      exact hK _ _ (Below.refl _ _) rfl
    · refine @id (StepG _ _ _ _ _ _ _ _ _ _ _) ?_
      intro nst ys wx hn hmay hw hS hd
      obtain rfl : nst = 0 := may_one hmay hn (by kernel_rfl)
      intro K hK
      have e14 : ys 14 = _ := hd 14 (by decide)
      simp only [putL, Act.put, List.setIfInBounds_toArray, List.set_cons_zero, List.set_cons_succ, Nat.zero_add, Nat.reduceAdd, e14] at hK ⊢
      rw [if_pos (by rfl)]
      have kx := (hS.2 rfl).1
      go_simp
      exact hK _ _ (Below.refl _ _) rfl
    · refine @id (StepG _ _ _ _ _ _ _ _ _ _ _) ?_
      intro nst ys wx hn hmay hw hS hd
      intro K hK
      have e0 : ys 0 = _ := hd 0 (by decide)
      have e2 : ys 2 = _ := hd 2 (by decide)
      simp only [putL, Act.put, List.setIfInBounds_toArray, List.set_cons_zero, List.set_cons_succ, Nat.zero_add, Nat.reduceAdd, e0, e2] at hK ⊢
      rw [if_pos (by rfl)]
      have q1 : (n : Int) < 9 := by omega
      have q0 : (0 : Int) ≤ n := by omega
      have q2 : (n : Int).toNat = n := by omega
      go_simp
      exact hK _ _ (Below.refl _ _) rfl
    · refine @id (StepS _ _ _ _ _ _ _ _ _ _ _) ?_
      intro ys wx hw hS hd K hK
      have e10 : ys 10 = _ := hd 10 (by decide)
      have e16 : ys 16 = _ := hd 16 (by decide)
      simp only [putL, Act.put, List.setIfInBounds_toArray, List.set_cons_zero, List.set_cons_succ, Nat.zero_add, Nat.reduceAdd, e10, e16] at hK ⊢
      rw [if_pos (by rfl)]
      have hS0 : Bld RdB 23 wx (w.heap.size + 1) (fun _ => True) (.slice (some ⟨g, 0, none⟩) 9 c1) l := hS.1
      obtain ⟨u, hu, hfz, _⟩ := hS0.at_ hnl
      have hset := hS0.set_ okB hnl (u := .slice Am lm.length cm) (x := lm) (okB.mono (okB.below hRm hw fun k hk _ => hk.2) fun k hk => ⟨hk.1, trivial⟩)
      have hbs := (Below.refl (w.heap.size + 1) wx).setCell (p := ⟨g, n, none⟩) hg0 (.slice Am lm.length cm)
      go_simp
      exact hK undef _ hbs ⟨hset, fun h => by cases h⟩ trivial ⟨fun _ h => h, fun _ h => h, fun _ h => h, fun _ h => h, fun _ h => h, fun _ h => h, fun _ h => h, fun _ h => h, fun _ h => h, fun _ h => h, fun _ h => h, fun _ h => h, fun _ h => h, fun _ h => h, fun _ h => h, fun _ h => h, fun _ h => h, fun _ h => h, fun _ h => h, fun _ h => h, trivial⟩
    · refine @id (StepG _ _ _ _ _ _ _ _ _ _ _) ?_
      intro nst ys wx hn hmay hw hS hd
      intro K hK
      have e3 : ys 3 = _ := hd 3 (by decide)
      have e5 : ys 5 = _ := hd 5 (by decide)
      simp only [putL, Act.put, List.setIfInBounds_toArray, List.set_cons_zero, List.set_cons_succ, Nat.zero_add, Nat.reduceAdd, e3, e5] at hK ⊢
      rw [if_pos (by rfl)]
      have q1 : (m : Int) < 9 := by omega
      have q0 : (0 : Int) ≤ m := by omega
      have q2 : (m : Int).toNat = m := by omega
      go_simp
      exact hK _ _ (Below.refl _ _) rfl
    · refine @id (StepS _ _ _ _ _ _ _ _ _ _ _) ?_
      intro ys wx hw hS hd K hK
      have e15 : ys 15 = _ := hd 15 (by decide)
      have e18 : ys 18 = _ := hd 18 (by decide)
      simp only [putL, Act.put, List.setIfInBounds_toArray, List.set_cons_zero, List.set_cons_succ, Nat.zero_add, Nat.reduceAdd, e15, e18] at hK ⊢
      rw [if_pos (by rfl)]
      have hS0 : Bld RdB 23 wx (w.heap.size + 1) (fun _ => True) (.slice (some ⟨g, 0, none⟩) 9 c1) (l.set n lm) := hS.1
      have hml2 : m < (l.set n lm).length := by rw [List.length_set]; exact hml
      obtain ⟨u, hu, hfz, _⟩ := hS0.at_ hml2
      have hset := hS0.set_ okB hml2 (u := .slice An ln.length cn) (x := ln) (okB.mono (okB.below hRn hw fun k hk _ => hk.2) fun k hk => ⟨hk.1, trivial⟩)
      have hbs := (Below.refl (w.heap.size + 1) wx).setCell (p := ⟨g, m, none⟩) hg0 (.slice An ln.length cn)
      go_simp
      exact hK undef _ hbs ⟨hset, fun h => by cases h⟩ trivial ⟨fun _ h => h, fun _ h => h, fun _ h => h, fun _ h => h, fun _ h => h, fun _ h => h, fun _ h => h, fun _ h => h, fun _ h => h, fun _ h => h, fun _ h => h, fun _ h => h, fun _ h => h, fun _ h => h, fun _ h => h, fun _ h => h, fun _ h => h, fun _ h => h, fun _ h => h, fun _ h => h, trivial⟩
  · intro ys w' hl' hS' hV
    clear hV
    simp only [putL, Act.put, List.setIfInBounds_toArray, List.set_cons_zero, List.set_cons_succ, Nat.zero_add, Nat.reduceAdd]
    have hfin : Bld RdB 23 w' (w.heap.size + 1) (fun _ => True) (.slice (some ⟨g, 0, none⟩) 9 c1) ((l.set n lm).set m ln) := hS'.1
    have HF := Lib.hid (hfin.base_ (b := w.heap.size) (Nat.le_succ _))
    have HBl := Lib.hid (hnb1.out.trans (hl'.mono (Nat.le_succ _)))
    clear hfin hS' hl'
    go_wp2
    go_ret
    exact ⟨_, rfl, HF.out, HBl.out⟩
theorem model_Do (l : List Bs) (d : Deed) (v vd : Value) (F : Fp) (w : World) (h : RdBB w F v l) (hd : RdD w F vd d) (hl : l.length = 9) (hr : wrongI d = 0) :
    Calls Try.prog 22 #[v, vd] w fun e w' => ∃ v', e = .returned v' ∧ Bld RdB 23 w' w.heap.size (fun _ => True) v' (doD l d) ∧ Below w.heap.size w w' := by
  rcases (wrong_ok hr).2 with hk | hk
  · exact model_Do_write l d v vd F w h hd hl hr hk.1
  · exact model_Do_swap l d v vd F w h hd hl hr hk.1
end Go.Proofs.Ytlbnkoahkfhimaa

/- Chapter 8: the reference's 'with': an array with another cell. -/
import Derived.Test.YtlbnkoahkfhimaaC7c
import Derived.Test.YtlbnkoahkfhimaaMem5
namespace Go.Proofs.Ytlbnkoahkfhimaa
set_option linter.unusedVariables false
open Go Go.RowKit M
set_option maxRecDepth 100000 in
set_option maxHeartbeats 800000 in
theorem ref_with (a : Arr) (d s : Nat) (x : Bs) (v vb : Value) (F : Fp) (w : World) (h : RdA w F v a) (hx : RdB w F vb x) (hsh : Shape a.disks) (hd : d < 4) (hs : s < 3) :
    Calls Try.prog 66 #[v, .int .i64 d, .int .i64 s, vb] w fun e w' => ∃ v', e = .returned v' ∧ RdA w' (fun k => F k ∨ w.heap.size ≤ k) v' ⟨setA a.disks d s x, a.ints⟩ ∧ Below w.heap.size w w' := by
  obtain ⟨dv, iv, rfl, hD, hI⟩ := h
  obtain ⟨b0, o0, c0, rfl, _, _, hc0, hc1⟩ := disks_form hD hsh
  obtain ⟨Ai, ci, rfl, _, _⟩ := hI.shape
  unfold maxLen at hc1
  have HS := Lib.hid hsh
  replace hD := okBBB.lt hD
  replace hI := okIs.lt hI
  replace hx := okB.lt hx
  obtain ⟨us, hus, hul, huR⟩ := hD.vals okBB
  rw [hsh.1] at hul
  obtain ⟨ud, hud⟩ : ∃ u, us[d]? = some u := ⟨us[d]'(by omega), List.getElem?_eq_getElem _⟩
  obtain ⟨r, hrd, hrl, _, hrg⟩ := hsh.row hd
  have hRd := huR d ud r hud hrd
  obtain ⟨b1, o1, c1, rfl, _, _, hc2, hc3⟩ := hRd.form (by omega)
  rw [hrl] at hRd hc2 hud
  obtain ⟨rs, hrs, hrsl, hrR⟩ := hRd.vals okB
  rw [hrl] at hrsl
  unfold maxLen at hc3
  have hA0 := boxAt_new w 41 [.slice (some ⟨b0, o0, none⟩) 4 c0, .slice Ai a.ints.length ci]
  have hA1 := boxAt_new (w.alloc (.cells #[.slice (some ⟨b0, o0, none⟩) 4 c0, .slice Ai a.ints.length ci] 41)) 41 [.slice none 0 0, .slice none 0 0]
  have hb0 := below_alloc w (.cells #[.slice (some ⟨b0, o0, none⟩) 4 c0, .slice Ai a.ints.length ci] 41)
  have hb1 := below_alloc (w.alloc (.cells #[.slice (some ⟨b0, o0, none⟩) 4 c0, .slice Ai a.ints.length ci] 41)) (.cells #[.slice none 0 0, .slice none 0 0] 41)
  rw [alloc_size] at hA1
  have hsz : ((w.alloc (.cells #[.slice (some ⟨b0, o0, none⟩) 4 c0, .slice Ai a.ints.length ci] 41)).alloc (.cells #[.slice none 0 0, .slice none 0 0] 41)).heap.size = w.heap.size + 2 := by rw [alloc_size, alloc_size]
  replace hA0 := hA0.grow hb1
  replace hb0 := hb0.trans (hb1.mono hb0.size)
  obtain ⟨w1, hW⟩ : ∃ x, (w.alloc (.cells #[.slice (some ⟨b0, o0, none⟩) 4 c0, .slice Ai a.ints.length ci] 41)).alloc (.cells #[.slice none 0 0, .slice none 0 0] 41) = x := ⟨_, rfl⟩
  change BoxAt ((w.alloc (.cells #[.slice (some ⟨b0, o0, none⟩) 4 c0, .slice Ai a.ints.length ci] 41)).alloc (.cells #[.slice none 0 0, .slice none 0 0] 41)) _ _ _ at hA0
  change BoxAt ((w.alloc (.cells #[.slice (some ⟨b0, o0, none⟩) 4 c0, .slice Ai a.ints.length ci] 41)).alloc (.cells #[.slice none 0 0, .slice none 0 0] 41)) _ _ _ at hA1
  rw [hW] at hA0 hA1 hb0 hsz
  obtain ⟨x0, x1, x2, x3⟩ := hA0.two
  have hE := Bld.empty RV 22 w1 (w.heap.size + 2) (fun _ => True) (by omega)
  have hbe := below_alloc w1 (.cells #[] 22)
  have hS0 := (okL okRV).old ((okL okRV).lt ((okL okRV).grow hus hb0)) hbe (G := fun k => some k ≠ (Value.slice (some ⟨w.heap.size + 2, 0, none⟩) 0 0).ownBlock ∧ True) fun k hk _ => ⟨by have := hk.1.2; simp only [Value.ownBlock, ne_eq, Option.some.injEq]; omega, trivial⟩
  rw [hsz] at hE
  have HA0 := Lib.hid hA0
  have HA1 := Lib.hid hA1
  have HB0 := Lib.hid (hb0.trans (hbe.mono hb0.size))
  have HBE := Lib.hid hbe
  have HW := Lib.hid hW
  have HUL := Lib.hid hul
  have HSZ := Lib.hid hsz
  have HRG := Lib.hid hrg
  have HRL := Lib.hid hrl
  rw [← hW] at x0 x1 x2 x3
  clear hsh hb1 hA0 hA1 hb0 hsz hW hbe hul hrl hrg
  go_enter Try.func66, Try.ntmps66
  go_wp2_with (at_builtin; rw [HW.out]; refine wpList_append_bld (w1.alloc (.cells #[] 22)) rfl _ _ 38 (by rfl) okRV slBBB (w.heap.size + 2) (fun _ => True) (.slice (some ⟨w.heap.size + 2, 0, none⟩) 0 0) _ [] us (by rfl) (by rfl) hE hS0 ?c1 ?c2 ?c3)
  case c1 => have := HUL.out; simp; omega
  case c2 => have := HBE.out.size; have := HSZ.out; omega
  case c3 =>
  intro v3 w3 hv3 hb3 _ _
  replace hv3 : Bld RV 22 w3 (w.heap.size + 2) (fun _ => True) v3 us := hv3
  obtain ⟨g, c4, rfl, hg0, hg1, hg2, _⟩ := hv3.form (by rw [HUL.out]; decide)
  have hul := HUL.out
  rw [hul] at hv3 hg2 ⊢
  have hszE := HSZ.out
  have hB3 := HB0.out.trans (hb3.mono (by omega))
  have hA3 := (HA0.out.grow HBE.out).keep hb3 (by omega)
  have hA4 := (HA1.out.grow HBE.out).keep hb3 (by omega)
  obtain ⟨y0, y1, y2, y3⟩ := hA3.two
  have hA5 := hA3.set_ 0 (.slice (some ⟨g, 0, none⟩) 4 c4)
  have hA6 := hA4.far (b' := w.heap.size) (j := 0) (v := .slice (some ⟨g, 0, none⟩) 4 c4) (by omega)
  have hv5 := hv3.setcV (b := w.heap.size) (j := 0) (v := .slice (some ⟨g, 0, none⟩) 4 c4) (fun k hk => by simp only [Value.ownBlock, Option.some.injEq] at hk; omega)
  have hB5 := hB3.setCell (p := ⟨w.heap.size, 0, none⟩) (Nat.le_refl _) (.slice (some ⟨g, 0, none⟩) 4 c4)
  clear hv3 hA3 hA4 hB3 x0 x1 x2 x3
  go_wp2_with fail
  clear y0 y1 y2 y3
  generalize w3.setCell ⟨w.heap.size, 0, none⟩ (.slice (some ⟨g, 0, none⟩) 4 c4) = w5 at *
  have hgl := (hv5.blk g rfl).2
  have hdu : d < us.length := by omega
  have HHRS := Lib.hid hrsl
  have HHUS := Lib.hid hul
  have HUD := Lib.hid hud
  clear hE hS0 hb3 hul hszE hrsl hud
  refine region_three (w.heap.size + 2) [Ck (.pointer (some ⟨w.heap.size, 0, none⟩)), Ck (.slice (some ⟨g, 0, none⟩) 4 c4), Ck (.int .i64 d), Ek 0 (Ow 23 (w.heap.size + 2) g []), Ck (.pointer (some ⟨w.heap.size, 0, none⟩)), Ck (.slice (some ⟨g, 0, none⟩) 4 c4), Ck (.int .i64 d), Ck (.pointer (some ⟨g, d, none⟩)), Ck (.slice (some ⟨b1, o1, none⟩) 3 c1), Fk 1 (Ow 23 (w.heap.size + 2) g rs), Ck (.pointer (some ⟨g, d, none⟩)), Tk] (fun m wx => (m ≤ 1 → Bld RV 22 wx (w.heap.size + 2) (fun _ => True) (.slice (some ⟨g, 0, none⟩) 4 c4) us) ∧ (m = 2 → ∃ vr, Bld RV 22 wx (w.heap.size + 2) (fun _ => True) (.slice (some ⟨g, 0, none⟩) 4 c4) (us.set d vr) ∧ Bld RV 23 wx (w.heap.size + 2) (fun _ => True) vr rs ∧ ∀ k, vr.ownBlock = some k → k ≠ g)) [9, 11] (by kernel_rfl) (by kernel_rfl) (by kernel_rfl) (by kernel_rfl) (by kernel_rfl) ?_ ?_ (fun m w w' hb h => ⟨fun hm => (h.1 hm).grow okRV hb, fun hm => (h.2 hm).imp fun vr hv => ⟨hv.1.grow okRV hb, hv.2.1.grow okRV hb, hv.2.2⟩⟩) (⟨fun _ => hv5, fun h => by omega⟩) ?_ ?_
  · first | exact Nat.le_refl _ | assumption | omega
  · repeat (first | exact trivial | refine ⟨mCk _, ?_⟩ | refine ⟨mTk, ?_⟩ | refine ⟨mEk _ (by first | exact mC _ | exact mT | exact mR okB _ | exact mR okBB _ | exact mR okBBB _ | exact mRn okB _ _ | exact mRn okBB _ _ | exact mOw _ _ _ _ | exact mRm okB _ _ _), ?_⟩ | refine ⟨mFk _ (by first | exact mC _ | exact mT | exact mR okB _ | exact mR okBB _ | exact mR okBBB _ | exact mRn okB _ _ | exact mRn okBB _ _ | exact mOw _ _ _ _ | exact mRm okB _ _ _), ?_⟩ | refine ⟨fun _ => (by first | exact mC _ | exact mT | exact mR okB _ | exact mR okBB _ | exact mR okBBB _ | exact mRn okB _ _ | exact mRn okBB _ _ | exact mOw _ _ _ _ | exact mRm okB _ _ _), ?_⟩)
  · simp only [StepsL3]
    refine ⟨?_, ?_, ?_, ?_, ?_, ?_, ?_, ?_, ?_, ?_, ?_, ?_, trivial⟩
    · refine @id (StepG _ _ _ _ _ _ _ _ _ _ _) ?_
      intro nst ys wx hn hmay hw hS hd
      intro K hK
      simp only [putL, Act.put, List.setIfInBounds_toArray, List.set_cons_zero, List.set_cons_succ, Nat.zero_add, Nat.reduceAdd] at hK ⊢
      rw [if_pos (by rfl)]
      go_simp
      exact hK _ _ (Below.refl _ _) rfl
    · refine @id (StepG _ _ _ _ _ _ _ _ _ _ _) ?_
      intro nst ys wx hn hmay hw hS hd
      intro K hK
      have e0 : ys 0 = _ := hd 0 (by decide)
      simp only [putL, Act.put, List.setIfInBounds_toArray, List.set_cons_zero, List.set_cons_succ, Nat.zero_add, Nat.reduceAdd, e0] at hK ⊢
      rw [if_pos (by rfl)]
      obtain ⟨kb0, kb1, _⟩ := (hA5.keep hw (by omega)).two
      go_simp
      exact hK _ _ (Below.refl _ _) rfl
    · refine @id (StepG _ _ _ _ _ _ _ _ _ _ _) ?_
      intro nst ys wx hn hmay hw hS hd
      intro K hK
      simp only [putL, Act.put, List.setIfInBounds_toArray, List.set_cons_zero, List.set_cons_succ, Nat.zero_add, Nat.reduceAdd] at hK ⊢
      rw [if_pos (by rfl)]
      go_simp
      exact hK _ _ (Below.refl _ _) rfl
    · refine @id (StepG _ _ _ _ _ _ _ _ _ _ _) ?_
      intro nst ys wx hn hmay hw hS hd
      obtain rfl : nst = 0 := may_one hmay hn (by kernel_rfl)
      intro K hK
      simp only [putL, Act.put, List.setIfInBounds_toArray, List.set_cons_zero, List.set_cons_succ, Nat.zero_add, Nat.reduceAdd] at hK ⊢
      rw [if_pos (by rfl)]
      go_simp
      have hsw := hw.size
      exact hK _ _ (below_alloc _ _) ⟨Bld.empty _ _ _ _ _ (by omega), fun k hk => by simp only [Value.ownBlock, Option.some.injEq] at hk; omega⟩
    · refine @id (StepG _ _ _ _ _ _ _ _ _ _ _) ?_
      intro nst ys wx hn hmay hw hS hd
      intro K hK
      simp only [putL, Act.put, List.setIfInBounds_toArray, List.set_cons_zero, List.set_cons_succ, Nat.zero_add, Nat.reduceAdd] at hK ⊢
      rw [if_pos (by rfl)]
      go_simp
      exact hK _ _ (Below.refl _ _) rfl
    · refine @id (StepG _ _ _ _ _ _ _ _ _ _ _) ?_
      intro nst ys wx hn hmay hw hS hd
      intro K hK
      have e4 : ys 4 = _ := hd 4 (by decide)
      simp only [putL, Act.put, List.setIfInBounds_toArray, List.set_cons_zero, List.set_cons_succ, Nat.zero_add, Nat.reduceAdd, e4] at hK ⊢
      rw [if_pos (by rfl)]
      obtain ⟨kb0, kb1, _⟩ := (hA5.keep hw (by omega)).two
      go_simp
      exact hK _ _ (Below.refl _ _) rfl
    · refine @id (StepG _ _ _ _ _ _ _ _ _ _ _) ?_
      intro nst ys wx hn hmay hw hS hd
      intro K hK
      simp only [putL, Act.put, List.setIfInBounds_toArray, List.set_cons_zero, List.set_cons_succ, Nat.zero_add, Nat.reduceAdd] at hK ⊢
      rw [if_pos (by rfl)]
      go_simp
      exact hK _ _ (Below.refl _ _) rfl
    · refine @id (StepG _ _ _ _ _ _ _ _ _ _ _) ?_
      intro nst ys wx hn hmay hw hS hd
      intro K hK
      have e5 : ys 5 = _ := hd 5 (by decide)
      have e6 : ys 6 = _ := hd 6 (by decide)
      simp only [putL, Act.put, List.setIfInBounds_toArray, List.set_cons_zero, List.set_cons_succ, Nat.zero_add, Nat.reduceAdd, e5, e6] at hK ⊢
      rw [if_pos (by rfl)]
      have q1 : (d : Int) < 4 := by omega
      have q0 : (0 : Int) ≤ d := by omega
      have q2 : (d : Int).toNat = d := by omega
      go_simp
      exact hK _ _ (Below.refl _ _) rfl
    · refine @id (StepG _ _ _ _ _ _ _ _ _ _ _) ?_
      intro nst ys wx hn hmay hw hS hd
      obtain rfl : nst = 0 := may_one hmay hn (by kernel_rfl)
      intro K hK
      have e7 : ys 7 = _ := hd 7 (by decide)
      simp only [putL, Act.put, List.setIfInBounds_toArray, List.set_cons_zero, List.set_cons_succ, Nat.zero_add, Nat.reduceAdd, e7] at hK ⊢
      rw [if_pos (by rfl)]
      obtain ⟨u, hu, _, hR⟩ := (hS.1 (by decide)).at_ hdu
      obtain rfl : u = .slice (some ⟨b1, o1, none⟩) 3 c1 := by
        have h1 := HUD.out
        rw [List.getElem?_eq_getElem hdu] at h1
        injection h1 with h1
        rw [hR.1, h1]
      clear hR
      go_simp
      exact hK _ _ (Below.refl _ _) rfl
    · refine @id (StepS _ _ _ _ _ _ _ _ _ _ _) ?_
      intro ys wx hw hS hd K hK
      have k3 := hd 3 (by decide)
      change (Ow 23 (w.heap.size + 2) g []) wx (ys 3) at k3
      have e8 : ys 8 = _ := hd 8 (by decide)
      simp only [putL, Act.put, List.setIfInBounds_toArray, List.set_cons_zero, List.set_cons_succ, Nat.zero_add, Nat.reduceAdd, e8] at hK ⊢
      rw [if_pos (by rfl)]
      have hsrc : RdL RV wx (fun k => some k ≠ (ys 3).ownBlock ∧ True) (.slice (some ⟨b1, o1, none⟩) 3 c1) rs := (okL okRV).old hrs (hB5.trans (hw.mono (by omega))) fun k hk _ => ⟨fun e => by have := (k3.1.blk k e.symm).1; have := hk.2; omega, trivial⟩
      have hs0 := hw.size
      have hS0 := hS.1 (by decide)
      refine wp_append_bld _ _ 22 (by rfl) okRV slBB (w.heap.size + 2) (fun _ => True) (ys 3) _ [] rs (by rfl) (by rfl) k3.1 hsrc (by have := HHRS.out; simp; omega) (by omega) ?_
      intro v' w' h1 h2 h3 h4
      have hSn : Bld RV 22 w' (w.heap.size + 2) (fun _ => True) (.slice (some ⟨g, 0, none⟩) 4 c4) us := ((hS0.anyG (G' := fun _ => False)).keep okRV h3 (.inr fun e => k3.2 g e.symm rfl) fun _ _ hk => False.elim hk).anyG
      refine hK _ _ h2 ⟨fun _ => hSn, fun h => by omega⟩ ⟨h1, fun k hk e => ?_⟩ ⟨fun _ h => h, fun _ h => h, fun _ h => h, fun _ _ => trivial, fun _ h => h, fun _ h => h, fun _ h => h, fun _ h => h, fun _ h => h, fun _ h => h.elim, fun _ h => h, fun _ h => h, trivial⟩
      subst e
      rcases h4 with h4 | h4
      · exact k3.2 k (h4 ▸ hk) rfl
      · rw [hk] at h4
        injection h4 with h4
        omega
    · refine @id (StepG _ _ _ _ _ _ _ _ _ _ _) ?_
      intro nst ys wx hn hmay hw hS hd
      intro K hK
      have e1 : ys 1 = _ := hd 1 (by decide)
      have e2 : ys 2 = _ := hd 2 (by decide)
      simp only [putL, Act.put, List.setIfInBounds_toArray, List.set_cons_zero, List.set_cons_succ, Nat.zero_add, Nat.reduceAdd, e1, e2] at hK ⊢
      rw [if_pos (by rfl)]
      have q1 : (d : Int) < 4 := by omega
      have q0 : (0 : Int) ≤ d := by omega
      have q2 : (d : Int).toNat = d := by omega
      go_simp
      exact hK _ _ (Below.refl _ _) rfl
    · refine @id (StepS _ _ _ _ _ _ _ _ _ _ _) ?_
      intro ys wx hw hS hd K hK
      have k9 := hd 9 (by decide)
      change (Ow 23 (w.heap.size + 2) g rs) wx (ys 9) at k9
      have e10 : ys 10 = _ := hd 10 (by decide)
      simp only [putL, Act.put, List.setIfInBounds_toArray, List.set_cons_zero, List.set_cons_succ, Nat.zero_add, Nat.reduceAdd, e10] at hK ⊢
      rw [if_pos (by rfl)]
      have hS0 := hS.1 (by decide)
      obtain ⟨u, hu, hfz, _⟩ := hS0.at_ hdu
      obtain ⟨gr, cr, hyr, hgr0, hgr1, _⟩ := k9.1.form (by rw [HHRS.out]; decide)
      have k9o := k9.2
      have k9b := k9.1
      rw [hyr] at k9o k9b
      simp only [hyr] at hK ⊢
      rw [HHRS.out] at hK k9b ⊢
      have hset := hS0.set_ okRV hdu (u := .slice (some ⟨gr, 0, none⟩) 3 cr) (x := .slice (some ⟨gr, 0, none⟩) 3 cr) ⟨rfl, rfl⟩
      have hrow := k9b.setcV (b := g) (j := d) (v := .slice (some ⟨gr, 0, none⟩) 3 cr) k9o
      have hbs := (Below.refl (w.heap.size + 2) wx).setCell (p := ⟨g, d, none⟩) hg0 (.slice (some ⟨gr, 0, none⟩) 3 cr)
      clear k9 hyr
      go_simp
      exact hK undef _ hbs ⟨fun h => by omega, fun _ => ⟨_, hset, hrow, k9o⟩⟩ trivial ⟨fun _ h => h, fun _ h => h, fun _ h => h, fun _ h => h, fun _ h => h, fun _ h => h, fun _ h => h, fun _ h => h, fun _ h => h, fun _ h => ⟨h.1.setcV h.2, h.2⟩, fun _ h => h, fun _ h => h, trivial⟩
  · intro ys w' hl' hS' hV
    clear hV
    simp only [putL, Act.put, List.setIfInBounds_toArray, List.set_cons_zero, List.set_cons_succ, Nat.zero_add, Nat.reduceAdd]
    obtain ⟨vr, hT, hRw, hne⟩ := hS'.2 rfl
    obtain ⟨gr, cr, rfl, hgr0, hgr1, hgr2, _⟩ := hRw.form (by rw [HHRS.out]; decide)
    have hrl3 := HHRS.out
    have hul4 := HHUS.out
    rw [hrl3] at hT hRw hgr2
    have hgne : gr ≠ g := hne gr rfl
    have hA7 := hA5.keep hl' (by omega)
    have hA8 := hA6.keep hl' (by omega)
    have hdu2 : d < (us.set d (.slice (some ⟨gr, 0, none⟩) 3 cr)).length := by rw [List.length_set]; exact hdu
    obtain ⟨ut, hut, _, hRt⟩ := hT.at_ hdu2
    obtain rfl : ut = .slice (some ⟨gr, 0, none⟩) 3 cr := by rw [hRt.1, List.getElem_set_self]
    have hsr : s < rs.length := by omega
    obtain ⟨us_, hus_, hfs, _⟩ := hRw.at_ hsr
    obtain ⟨Ax, cx, rfl, _, _⟩ := hx.shape
    obtain ⟨z0, z1, z2, z3⟩ := hA7.two
    have hA9 := hA7.far (b' := gr) (j := s) (v := .slice Ax x.length cx) (by omega)
    have hA10 := hA8.far (b' := gr) (j := s) (v := .slice Ax x.length cx) (by omega)
    obtain ⟨p0, p1, p2, p3⟩ := hA9.two
    obtain ⟨q0, q1, q2, q3⟩ := hA10.two
    have hrow := hRw.set_ okRV hsr (u := .slice Ax x.length cx) (x := .slice Ax x.length cx) ⟨rfl, rfl⟩
    have htop := hT.setcV (b := gr) (j := s) (v := .slice Ax x.length cx) (fun k hk => by simp only [Value.ownBlock, Option.some.injEq] at hk; omega)
    have hrow2 := (hrow.setcV (b := w.heap.size + 1) (j := 0) (v := .slice (some ⟨g, 0, none⟩) 4 c4) (fun k hk => by simp only [Value.ownBlock, Option.some.injEq] at hk; omega)).setcV (b := w.heap.size + 1) (j := 1) (v := .slice Ai a.ints.length ci) (fun k hk => by simp only [Value.ownBlock, Option.some.injEq] at hk; omega)
    have htop2 := (htop.setcV (b := w.heap.size + 1) (j := 0) (v := .slice (some ⟨g, 0, none⟩) 4 c4) (fun k hk => by simp only [Value.ownBlock, Option.some.injEq] at hk; omega)).setcV (b := w.heap.size + 1) (j := 1) (v := .slice Ai a.ints.length ci) (fun k hk => by simp only [Value.ownBlock, Option.some.injEq] at hk; omega)
    have hbB := (((hB5.trans (hl'.mono (by omega))).setCell (p := ⟨gr, s, none⟩) (by show w.heap.size ≤ gr; omega) (.slice Ax x.length cx)).setCell (p := ⟨w.heap.size + 1, 0, none⟩) (by show w.heap.size ≤ w.heap.size + 1; omega) (.slice (some ⟨g, 0, none⟩) 4 c4)).setCell (p := ⟨w.heap.size + 1, 1, none⟩) (by show w.heap.size ≤ w.heap.size + 1; omega) (.slice Ai a.ints.length ci)
    have HTop := Lib.hid htop2
    have HRow := Lib.hid hrow2
    have HBB := Lib.hid hbB
    clear hrow htop hrow2 htop2 hbB hRt hrl3 hT hRw hA7 hA8 hA9 hA10
    go_wp2_with fail
    refine bodyPost_ret (v := .agg #[.slice (some ⟨g, 0, none⟩) 4 c4, .slice Ai a.ints.length ci]) (by simp [results, Try.results66, go_sem, *]) rfl ⟨_, rfl, ?_, HBB.out⟩
    have hrowR : RdBB _ (fun k => F k ∨ w.heap.size ≤ k) (.slice (some ⟨gr, 0, none⟩) 3 cr) (r.set s x) := (((HRow.out.anyG (G' := fun _ => False)).toRd okRV (F := fun k => F k ∨ w.heap.size ≤ k) (fun k hk => .inr (by omega)) (fun _ hk => hk.elim)).of_vals (R := RdB) (xs := r.set s x) (by rw [List.length_set, List.length_set, HHRS.out, HRL.out]) fun j u y hu hy => by
      by_cases hj : j = s
      · subst hj
        have hjr : j < r.length := by have := HRL.out; omega
        rw [List.getElem?_set_self (by omega)] at hu
        rw [List.getElem?_set_self hjr] at hy
        injection hu with hu
        injection hy with hy
        subst hu; subst hy
        exact okB.mono (okB.grow hx HBB.out) fun _ hk => .inl hk.1
      · rw [List.getElem?_set_ne (Ne.symm hj)] at hu hy
        exact okB.mono (okB.grow (hrR j u y hu hy) HBB.out) fun _ hk => .inl hk.1)
    refine ⟨_, _, rfl, ?_, okIs.mono (okIs.grow hI HBB.out) fun _ hk => .inl hk.1⟩
    unfold setA
    rw [HRG.out]
    refine ((HTop.out.anyG (G' := fun _ => False)).toRd okRV (F := fun k => F k ∨ w.heap.size ≤ k) (fun k hk => .inr (by omega)) (fun _ hk => hk.elim)).of_vals (R := RdBB) (by rw [List.length_set, List.length_set, HHUS.out, HS.out.1]) fun j u y hu hy => ?_
    by_cases hj : j = d
    · subst hj
      have hjr : j < a.disks.length := by rw [HS.out.1]; exact hd
      rw [List.getElem?_set_self (by omega)] at hu
      rw [List.getElem?_set_self hjr] at hy
      injection hu with hu
      injection hy with hy
      subst hu; subst hy
      exact hrowR
    · rw [List.getElem?_set_ne (Ne.symm hj)] at hu hy
      exact okBB.mono (okBB.grow (huR j u y hu hy) HBB.out) fun _ hk => .inl hk.1
theorem shape_set {D : List (List Bs)} (h : Shape D) (d s : Nat) {b : Bs} (hb : b.length ≤ 8) : Shape (setA D d s b) := by
  unfold setA
  refine ⟨by rw [List.length_set]; exact h.1, fun r hr => ?_⟩
  rcases List.mem_or_eq_of_mem_set hr with hr | rfl
  · exact h.2 r hr
  · by_cases hd : d < 4
    · obtain ⟨r, _, h2, h3, h4⟩ := h.row hd
      rw [h4]
      refine ⟨by rw [List.length_set]; exact h2, fun c hc => ?_⟩
      rcases List.mem_or_eq_of_mem_set hc with hc | rfl
      · exact h3 c hc
      · exact hb
    · rw [List.set_eq_of_length_le (by rw [h.1]; omega)] at hr
      have : D.getD d [] = [] := by simp [List.getD, List.getElem?_eq_none (show D.length ≤ d by rw [h.1]; omega)]
      rw [this] at hr ⊢
      exact h.2 _ hr
end Go.Proofs.Ytlbnkoahkfhimaa

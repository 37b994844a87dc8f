/- Merged: C8 C8b C8c C8d C8e C8f. -/
import Derived.Test.YtoendmbgfbhidaaZd
import Derived.Test.YtoendmbgfbhidaaZb
import Derived.Test.YtoendmbgfbhidaaZc
import Derived.Test.YtoendmbgfbhidaaZa
namespace Go.Proofs.Ytoendmbgfbhidaa
set_option linter.unusedVariables false
open Go Go.RowKit M
set_option maxRecDepth 100000 in
set_option maxHeartbeats 800000 in
theorem ref_with (a : Arr) (d s : Nat) (x : Bs) (v vb : Value) (F : Fp) (w : World) (h : RdA w F v a) (hx : RdB w F vb x) (hsh : Shape a.disks) (hd : d < 4) (hs : s < 3) :
    Calls Try.prog 70 #[v, .int .i64 d, .int .i64 s, vb] w fun e w' => ∃ v', e = .returned v' ∧ RdA w' (fun k => F k ∨ w.heap.size ≤ k) v' ⟨setA a.disks d s x, a.ints⟩ ∧ Below w.heap.size w w' := by
  obtain ⟨dv, iv, rfl, hD, hI⟩ := h
  obtain ⟨b0, o0, c0, rfl, _, _, hc0, hc1⟩ := disks_form hD hsh
  obtain ⟨Ai, ci, rfl, _, _⟩ := hI.shape
  unfold maxLen at hc1
  have HS := Lib.hid hsh
  replace hD := okBBB.lt hD
  replace hI := okIs.lt hI
  replace hx := okB.lt hx
  obtain ⟨us, hus, hul, huR⟩ := hD.vals okBB
  rw [hsh.1] at hul
  obtain ⟨ud, hud⟩ : ∃ u, us[d]? = some u := ⟨us[d]'(by omega), List.getElem?_eq_getElem _⟩
  obtain ⟨r, hrd, hrl, _, hrg⟩ := hsh.row hd
  have hRd := huR d ud r hud hrd
  obtain ⟨b1, o1, c1, rfl, _, _, hc2, hc3⟩ := hRd.form (by omega)
  rw [hrl] at hRd hc2 hud
  obtain ⟨rs, hrs, hrsl, hrR⟩ := hRd.vals okB
  rw [hrl] at hrsl
  unfold maxLen at hc3
  have hA0 := boxAt_new w 30 [.slice (some ⟨b0, o0, none⟩) 4 c0, .slice Ai a.ints.length ci]
  have hA1 := boxAt_new (w.alloc (.cells #[.slice (some ⟨b0, o0, none⟩) 4 c0, .slice Ai a.ints.length ci] 30)) 30 [.slice none 0 0, .slice none 0 0]
  have hb0 := below_alloc w (.cells #[.slice (some ⟨b0, o0, none⟩) 4 c0, .slice Ai a.ints.length ci] 30)
  have hb1 := below_alloc (w.alloc (.cells #[.slice (some ⟨b0, o0, none⟩) 4 c0, .slice Ai a.ints.length ci] 30)) (.cells #[.slice none 0 0, .slice none 0 0] 30)
  rw [alloc_size] at hA1
  have hsz : ((w.alloc (.cells #[.slice (some ⟨b0, o0, none⟩) 4 c0, .slice Ai a.ints.length ci] 30)).alloc (.cells #[.slice none 0 0, .slice none 0 0] 30)).heap.size = w.heap.size + 2 := by rw [alloc_size, alloc_size]
  replace hA0 := hA0.grow hb1
  replace hb0 := hb0.trans (hb1.mono hb0.size)
  obtain ⟨w1, hW⟩ : ∃ x, (w.alloc (.cells #[.slice (some ⟨b0, o0, none⟩) 4 c0, .slice Ai a.ints.length ci] 30)).alloc (.cells #[.slice none 0 0, .slice none 0 0] 30) = x := ⟨_, rfl⟩
  change BoxAt ((w.alloc (.cells #[.slice (some ⟨b0, o0, none⟩) 4 c0, .slice Ai a.ints.length ci] 30)).alloc (.cells #[.slice none 0 0, .slice none 0 0] 30)) _ _ _ at hA0
  change BoxAt ((w.alloc (.cells #[.slice (some ⟨b0, o0, none⟩) 4 c0, .slice Ai a.ints.length ci] 30)).alloc (.cells #[.slice none 0 0, .slice none 0 0] 30)) _ _ _ at hA1
  rw [hW] at hA0 hA1 hb0 hsz
  obtain ⟨x0, x1, x2, x3⟩ := hA0.two
  have hE := Bld.empty RV 41 w1 (w.heap.size + 2) (fun _ => True) (by omega)
  have hbe := below_alloc w1 (.cells #[] 41)
  have hS0 := (okL okRV).old ((okL okRV).lt ((okL okRV).grow hus hb0)) hbe (G := fun k => some k ≠ (Value.slice (some ⟨w.heap.size + 2, 0, none⟩) 0 0).ownBlock ∧ True) fun k hk _ => ⟨by have := hk.1.2; simp only [Value.ownBlock, ne_eq, Option.some.injEq]; omega, trivial⟩
  rw [hsz] at hE
  have HA0 := Lib.hid hA0
  have HA1 := Lib.hid hA1
  have HB0 := Lib.hid (hb0.trans (hbe.mono hb0.size))
  have HBE := Lib.hid hbe
  have HW := Lib.hid hW
  have HUL := Lib.hid hul
  have HSZ := Lib.hid hsz
  have HRG := Lib.hid hrg
  have HRL := Lib.hid hrl
  rw [← hW] at x0 x1 x2 x3
  clear hsh hb1 hA0 hA1 hb0 hsz hW hbe hul hrl hrg
  go_enter Try.func70, Try.ntmps70
  go_wp2_with (at_builtin; rw [HW.out]; refine wpList_append_bld (w1.alloc (.cells #[] 41)) rfl _ _ 27 (by rfl) okRV slBBB (w.heap.size + 2) (fun _ => True) (.slice (some ⟨w.heap.size + 2, 0, none⟩) 0 0) _ [] us (by rfl) (by rfl) hE hS0 ?c1 ?c2 ?c3)
  case c1 => have := HUL.out; simp; omega
  case c2 => have := HBE.out.size; have := HSZ.out; omega
  case c3 =>
  intro v3 w3 hv3 hb3 _ _
  replace hv3 : Bld RV 41 w3 (w.heap.size + 2) (fun _ => True) v3 us := hv3
  obtain ⟨g, c4, rfl, hg0, hg1, hg2, _⟩ := hv3.form (by rw [HUL.out]; decide)
  have hul := HUL.out
  rw [hul] at hv3 hg2 ⊢
  have hszE := HSZ.out
  have hB3 := HB0.out.trans (hb3.mono (by omega))
  have hA3 := (HA0.out.grow HBE.out).keep hb3 (by omega)
  have hA4 := (HA1.out.grow HBE.out).keep hb3 (by omega)
  obtain ⟨y0, y1, y2, y3⟩ := hA3.two
  have hA5 := hA3.set_ 0 (.slice (some ⟨g, 0, none⟩) 4 c4)
  have hA6 := hA4.far (b' := w.heap.size) (j := 0) (v := .slice (some ⟨g, 0, none⟩) 4 c4) (by omega)
  have hv5 := hv3.setcV (b := w.heap.size) (j := 0) (v := .slice (some ⟨g, 0, none⟩) 4 c4) (fun k hk => by simp only [Value.ownBlock, Option.some.injEq] at hk; omega)
  have hB5 := hB3.setCell (p := ⟨w.heap.size, 0, none⟩) (Nat.le_refl _) (.slice (some ⟨g, 0, none⟩) 4 c4)
  clear hv3 hA3 hA4 hB3 x0 x1 x2 x3
  go_wp2_with fail
  clear y0 y1 y2 y3
  generalize w3.setCell ⟨w.heap.size, 0, none⟩ (.slice (some ⟨g, 0, none⟩) 4 c4) = w5 at *
  have hgl := (hv5.blk g rfl).2
  have hdu : d < us.length := by omega
  have HHRS := Lib.hid hrsl
  have HHUS := Lib.hid hul
  have HUD := Lib.hid hud
  clear hE hS0 hb3 hul hszE hrsl hud
  refine region_three (w.heap.size + 2) [Ck (.pointer (some ⟨w.heap.size, 0, none⟩)), Ck (.slice (some ⟨g, 0, none⟩) 4 c4), Ck (.int .i64 d), Ek 0 (Ow 23 (w.heap.size + 2) g []), Ck (.pointer (some ⟨w.heap.size, 0, none⟩)), Ck (.slice (some ⟨g, 0, none⟩) 4 c4), Ck (.int .i64 d), Ck (.pointer (some ⟨g, d, none⟩)), Ck (.slice (some ⟨b1, o1, none⟩) 3 c1), Fk 1 (Ow 23 (w.heap.size + 2) g rs), Ck (.pointer (some ⟨g, d, none⟩)), Tk] (fun m wx => (m ≤ 1 → Bld RV 41 wx (w.heap.size + 2) (fun _ => True) (.slice (some ⟨g, 0, none⟩) 4 c4) us) ∧ (m = 2 → ∃ vr, Bld RV 41 wx (w.heap.size + 2) (fun _ => True) (.slice (some ⟨g, 0, none⟩) 4 c4) (us.set d vr) ∧ Bld RV 23 wx (w.heap.size + 2) (fun _ => True) vr rs ∧ ∀ k, vr.ownBlock = some k → k ≠ g)) [9, 11] (by kernel_rfl) (by kernel_rfl) (by kernel_rfl) (by kernel_rfl) (by kernel_rfl) ?_ ?_ (fun m w w' hb h => ⟨fun hm => (h.1 hm).grow okRV hb, fun hm => (h.2 hm).imp fun vr hv => ⟨hv.1.grow okRV hb, hv.2.1.grow okRV hb, hv.2.2⟩⟩) (⟨fun _ => hv5, fun h => by omega⟩) ?_ ?_
  · first | exact Nat.le_refl _ | assumption | omega
  · repeat (first | exact trivial | refine ⟨mCk _, ?_⟩ | refine ⟨mTk, ?_⟩ | refine ⟨mEk _ (by first | exact mC _ | exact mT | exact mR okB _ | exact mR okBB _ | exact mR okBBB _ | exact mRn okB _ _ | exact mRn okBB _ _ | exact mOw _ _ _ _ | exact mRm okB _ _ _ | exact mRa _ _ | exact mRg okROW _ _ | exact mRg okROWS _ _ | exact mRf okDISKS _ _ | exact mRg okCELL _ _ | exact mRg okBB _ _ | exact mRg okB _ _ | exact mRg okIs _ _ | exact mRi _ _), ?_⟩ | refine ⟨mFk _ (by first | exact mC _ | exact mT | exact mR okB _ | exact mR okBB _ | exact mR okBBB _ | exact mRn okB _ _ | exact mRn okBB _ _ | exact mOw _ _ _ _ | exact mRm okB _ _ _ | exact mRa _ _ | exact mRg okROW _ _ | exact mRg okROWS _ _ | exact mRf okDISKS _ _ | exact mRg okCELL _ _ | exact mRg okBB _ _ | exact mRg okB _ _ | exact mRg okIs _ _ | exact mRi _ _), ?_⟩ | refine ⟨fun _ => (by first | exact mC _ | exact mT | exact mR okB _ | exact mR okBB _ | exact mR okBBB _ | exact mRn okB _ _ | exact mRn okBB _ _ | exact mOw _ _ _ _ | exact mRm okB _ _ _ | exact mRa _ _ | exact mRg okROW _ _ | exact mRg okROWS _ _ | exact mRf okDISKS _ _ | exact mRg okCELL _ _ | exact mRg okBB _ _ | exact mRg okB _ _ | exact mRg okIs _ _ | exact mRi _ _), ?_⟩)
  · simp only [StepsL3]
    refine ⟨?_, ?_, ?_, ?_, ?_, ?_, ?_, ?_, ?_, ?_, ?_, ?_, trivial⟩
    · refine @id (StepG _ _ _ _ _ _ _ _ _ _ _) ?_
      intro nst ys wx hn hmay hw hS hd
      intro K hK
      simp only [putL, Act.put, List.setIfInBounds_toArray, List.set_cons_zero, List.set_cons_succ, Nat.zero_add, Nat.reduceAdd] at hK ⊢
      rw [if_pos (by rfl)]
      go_simp
      exact hK _ _ (Below.refl _ _) rfl
    · refine @id (StepG _ _ _ _ _ _ _ _ _ _ _) ?_
      intro nst ys wx hn hmay hw hS hd
      intro K hK
      have e0 : ys 0 = _ := hd 0 (by decide)
      simp only [putL, Act.put, List.setIfInBounds_toArray, List.set_cons_zero, List.set_cons_succ, Nat.zero_add, Nat.reduceAdd, e0] at hK ⊢
      rw [if_pos (by rfl)]
      obtain ⟨kb0, kb1, _⟩ := (hA5.keep hw (by omega)).two
      go_simp
      exact hK _ _ (Below.refl _ _) rfl
    · refine @id (StepG _ _ _ _ _ _ _ _ _ _ _) ?_
      intro nst ys wx hn hmay hw hS hd
      intro K hK
      simp only [putL, Act.put, List.setIfInBounds_toArray, List.set_cons_zero, List.set_cons_succ, Nat.zero_add, Nat.reduceAdd] at hK ⊢
      rw [if_pos (by rfl)]
      go_simp
      exact hK _ _ (Below.refl _ _) rfl
    · refine @id (StepG _ _ _ _ _ _ _ _ _ _ _) ?_
      intro nst ys wx hn hmay hw hS hd
      obtain rfl : nst = 0 := may_one hmay hn (by kernel_rfl)
      intro K hK
      simp only [putL, Act.put, List.setIfInBounds_toArray, List.set_cons_zero, List.set_cons_succ, Nat.zero_add, Nat.reduceAdd] at hK ⊢
      rw [if_pos (by rfl)]
      go_simp
      have hsw := hw.size
      exact hK _ _ (below_alloc _ _) ⟨Bld.empty _ _ _ _ _ (by omega), fun k hk => by simp only [Value.ownBlock, Option.some.injEq] at hk; omega⟩
    · refine @id (StepG _ _ _ _ _ _ _ _ _ _ _) ?_
      intro nst ys wx hn hmay hw hS hd
      intro K hK
      simp only [putL, Act.put, List.setIfInBounds_toArray, List.set_cons_zero, List.set_cons_succ, Nat.zero_add, Nat.reduceAdd] at hK ⊢
      rw [if_pos (by rfl)]
      go_simp
      exact hK _ _ (Below.refl _ _) rfl
    · refine @id (StepG _ _ _ _ _ _ _ _ _ _ _) ?_
      intro nst ys wx hn hmay hw hS hd
      intro K hK
      have e4 : ys 4 = _ := hd 4 (by decide)
      simp only [putL, Act.put, List.setIfInBounds_toArray, List.set_cons_zero, List.set_cons_succ, Nat.zero_add, Nat.reduceAdd, e4] at hK ⊢
      rw [if_pos (by rfl)]
      obtain ⟨kb0, kb1, _⟩ := (hA5.keep hw (by omega)).two
      go_simp
      exact hK _ _ (Below.refl _ _) rfl
    · refine @id (StepG _ _ _ _ _ _ _ _ _ _ _) ?_
      intro nst ys wx hn hmay hw hS hd
      intro K hK
      simp only [putL, Act.put, List.setIfInBounds_toArray, List.set_cons_zero, List.set_cons_succ, Nat.zero_add, Nat.reduceAdd] at hK ⊢
      rw [if_pos (by rfl)]
      go_simp
      exact hK _ _ (Below.refl _ _) rfl
    · refine @id (StepG _ _ _ _ _ _ _ _ _ _ _) ?_
      intro nst ys wx hn hmay hw hS hd
      intro K hK
      have e5 : ys 5 = _ := hd 5 (by decide)
      have e6 : ys 6 = _ := hd 6 (by decide)
      simp only [putL, Act.put, List.setIfInBounds_toArray, List.set_cons_zero, List.set_cons_succ, Nat.zero_add, Nat.reduceAdd, e5, e6] at hK ⊢
      rw [if_pos (by rfl)]
      have q1 : (d : Int) < 4 := by omega
      have q0 : (0 : Int) ≤ d := by omega
      have q2 : (d : Int).toNat = d := by omega
      go_simp
      exact hK _ _ (Below.refl _ _) rfl
    · refine @id (StepG _ _ _ _ _ _ _ _ _ _ _) ?_
      intro nst ys wx hn hmay hw hS hd
      obtain rfl : nst = 0 := may_one hmay hn (by kernel_rfl)
      intro K hK
      have e7 : ys 7 = _ := hd 7 (by decide)
      simp only [putL, Act.put, List.setIfInBounds_toArray, List.set_cons_zero, List.set_cons_succ, Nat.zero_add, Nat.reduceAdd, e7] at hK ⊢
      rw [if_pos (by rfl)]
      obtain ⟨u, hu, _, hR⟩ := (hS.1 (by decide)).at_ hdu
      obtain rfl : u = .slice (some ⟨b1, o1, none⟩) 3 c1 := by
        have h1 := HUD.out
        rw [List.getElem?_eq_getElem hdu] at h1
        injection h1 with h1
        rw [hR.1, h1]
      clear hR
      go_simp
      exact hK _ _ (Below.refl _ _) rfl
    · refine @id (StepS _ _ _ _ _ _ _ _ _ _ _) ?_
      intro ys wx hw hS hd K hK
      have k3 := hd 3 (by decide)
      change (Ow 23 (w.heap.size + 2) g []) wx (ys 3) at k3
      have e8 : ys 8 = _ := hd 8 (by decide)
      simp only [putL, Act.put, List.setIfInBounds_toArray, List.set_cons_zero, List.set_cons_succ, Nat.zero_add, Nat.reduceAdd, e8] at hK ⊢
      rw [if_pos (by rfl)]
      have hsrc : RdL RV wx (fun k => some k ≠ (ys 3).ownBlock ∧ True) (.slice (some ⟨b1, o1, none⟩) 3 c1) rs := (okL okRV).old hrs (hB5.trans (hw.mono (by omega))) fun k hk _ => ⟨fun e => by have := (k3.1.blk k e.symm).1; have := hk.2; omega, trivial⟩
      have hs0 := hw.size
      have hS0 := hS.1 (by decide)
      refine wp_append_bld _ _ 41 (by rfl) okRV slBB (w.heap.size + 2) (fun _ => True) (ys 3) _ [] rs (by rfl) (by rfl) k3.1 hsrc (by have := HHRS.out; simp; omega) (by omega) ?_
      intro v' w' h1 h2 h3 h4
      have hSn : Bld RV 41 w' (w.heap.size + 2) (fun _ => True) (.slice (some ⟨g, 0, none⟩) 4 c4) us := ((hS0.anyG (G' := fun _ => False)).keep okRV h3 (.inr fun e => k3.2 g e.symm rfl) fun _ _ hk => False.elim hk).anyG
      refine hK _ _ h2 ⟨fun _ => hSn, fun h => by omega⟩ ⟨h1, fun k hk e => ?_⟩ ⟨fun _ h => h, fun _ h => h, fun _ h => h, fun _ _ => trivial, fun _ h => h, fun _ h => h, fun _ h => h, fun _ h => h, fun _ h => h, fun _ h => h.elim, fun _ h => h, fun _ h => h, trivial⟩
      subst e
      rcases h4 with h4 | h4
      · exact k3.2 k (h4 ▸ hk) rfl
      · rw [hk] at h4
        injection h4 with h4
        omega
    · refine @id (StepG _ _ _ _ _ _ _ _ _ _ _) ?_
      intro nst ys wx hn hmay hw hS hd
      intro K hK
      have e1 : ys 1 = _ := hd 1 (by decide)
      have e2 : ys 2 = _ := hd 2 (by decide)
      simp only [putL, Act.put, List.setIfInBounds_toArray, List.set_cons_zero, List.set_cons_succ, Nat.zero_add, Nat.reduceAdd, e1, e2] at hK ⊢
      rw [if_pos (by rfl)]
      have q1 : (d : Int) < 4 := by omega
      have q0 : (0 : Int) ≤ d := by omega
      have q2 : (d : Int).toNat = d := by omega
      go_simp
      exact hK _ _ (Below.refl _ _) rfl
    · refine @id (StepS _ _ _ _ _ _ _ _ _ _ _) ?_
      intro ys wx hw hS hd K hK
      have k9 := hd 9 (by decide)
      change (Ow 23 (w.heap.size + 2) g rs) wx (ys 9) at k9
      have e10 : ys 10 = _ := hd 10 (by decide)
      simp only [putL, Act.put, List.setIfInBounds_toArray, List.set_cons_zero, List.set_cons_succ, Nat.zero_add, Nat.reduceAdd, e10] at hK ⊢
      rw [if_pos (by rfl)]
      have hS0 := hS.1 (by decide)
      obtain ⟨u, hu, hfz, _⟩ := hS0.at_ hdu
      obtain ⟨gr, cr, hyr, hgr0, hgr1, _⟩ := k9.1.form (by rw [HHRS.out]; decide)
      have k9o := k9.2
      have k9b := k9.1
      rw [hyr] at k9o k9b
      simp only [hyr] at hK ⊢
      rw [HHRS.out] at hK k9b ⊢
      have hset := hS0.set_ okRV hdu (u := .slice (some ⟨gr, 0, none⟩) 3 cr) (x := .slice (some ⟨gr, 0, none⟩) 3 cr) ⟨rfl, rfl⟩
      have hrow := k9b.setcV (b := g) (j := d) (v := .slice (some ⟨gr, 0, none⟩) 3 cr) k9o
      have hbs := (Below.refl (w.heap.size + 2) wx).setCell (p := ⟨g, d, none⟩) hg0 (.slice (some ⟨gr, 0, none⟩) 3 cr)
      clear k9 hyr
      go_simp
      exact hK undef _ hbs ⟨fun h => by omega, fun _ => ⟨_, hset, hrow, k9o⟩⟩ trivial ⟨fun _ h => h, fun _ h => h, fun _ h => h, fun _ h => h, fun _ h => h, fun _ h => h, fun _ h => h, fun _ h => h, fun _ h => h, fun _ h => ⟨h.1.setcV h.2, h.2⟩, fun _ h => h, fun _ h => h, trivial⟩
  · intro ys w' hl' hS' hV
    clear hV
    simp only [putL, Act.put, List.setIfInBounds_toArray, List.set_cons_zero, List.set_cons_succ, Nat.zero_add, Nat.reduceAdd]
    obtain ⟨vr, hT, hRw, hne⟩ := hS'.2 rfl
    obtain ⟨gr, cr, rfl, hgr0, hgr1, hgr2, _⟩ := hRw.form (by rw [HHRS.out]; decide)
    have hrl3 := HHRS.out
    have hul4 := HHUS.out
    rw [hrl3] at hT hRw hgr2
    have hgne : gr ≠ g := hne gr rfl
    have hA7 := hA5.keep hl' (by omega)
    have hA8 := hA6.keep hl' (by omega)
    have hdu2 : d < (us.set d (.slice (some ⟨gr, 0, none⟩) 3 cr)).length := by rw [List.length_set]; exact hdu
    obtain ⟨ut, hut, _, hRt⟩ := hT.at_ hdu2
    obtain rfl : ut = .slice (some ⟨gr, 0, none⟩) 3 cr := by rw [hRt.1, List.getElem_set_self]
    have hsr : s < rs.length := by omega
    obtain ⟨us_, hus_, hfs, _⟩ := hRw.at_ hsr
    obtain ⟨Ax, cx, rfl, _, _⟩ := hx.shape
    obtain ⟨z0, z1, z2, z3⟩ := hA7.two
    have hA9 := hA7.far (b' := gr) (j := s) (v := .slice Ax x.length cx) (by omega)
    have hA10 := hA8.far (b' := gr) (j := s) (v := .slice Ax x.length cx) (by omega)
    obtain ⟨p0, p1, p2, p3⟩ := hA9.two
    obtain ⟨q0, q1, q2, q3⟩ := hA10.two
    have hrow := hRw.set_ okRV hsr (u := .slice Ax x.length cx) (x := .slice Ax x.length cx) ⟨rfl, rfl⟩
    have htop := hT.setcV (b := gr) (j := s) (v := .slice Ax x.length cx) (fun k hk => by simp only [Value.ownBlock, Option.some.injEq] at hk; omega)
    have hrow2 := (hrow.setcV (b := w.heap.size + 1) (j := 0) (v := .slice (some ⟨g, 0, none⟩) 4 c4) (fun k hk => by simp only [Value.ownBlock, Option.some.injEq] at hk; omega)).setcV (b := w.heap.size + 1) (j := 1) (v := .slice Ai a.ints.length ci) (fun k hk => by simp only [Value.ownBlock, Option.some.injEq] at hk; omega)
    have htop2 := (htop.setcV (b := w.heap.size + 1) (j := 0) (v := .slice (some ⟨g, 0, none⟩) 4 c4) (fun k hk => by simp only [Value.ownBlock, Option.some.injEq] at hk; omega)).setcV (b := w.heap.size + 1) (j := 1) (v := .slice Ai a.ints.length ci) (fun k hk => by simp only [Value.ownBlock, Option.some.injEq] at hk; omega)
    have hbB := (((hB5.trans (hl'.mono (by omega))).setCell (p := ⟨gr, s, none⟩) (by show w.heap.size ≤ gr; omega) (.slice Ax x.length cx)).setCell (p := ⟨w.heap.size + 1, 0, none⟩) (by show w.heap.size ≤ w.heap.size + 1; omega) (.slice (some ⟨g, 0, none⟩) 4 c4)).setCell (p := ⟨w.heap.size + 1, 1, none⟩) (by show w.heap.size ≤ w.heap.size + 1; omega) (.slice Ai a.ints.length ci)
    have HTop := Lib.hid htop2
    have HRow := Lib.hid hrow2
    have HBB := Lib.hid hbB
    clear hrow htop hrow2 htop2 hbB hRt hrl3 hT hRw hA7 hA8 hA9 hA10
    go_wp2_with fail
    refine bodyPost_ret (v := .agg #[.slice (some ⟨g, 0, none⟩) 4 c4, .slice Ai a.ints.length ci]) (by simp [results, Try.results70, go_sem, *]) rfl ⟨_, rfl, ?_, HBB.out⟩
    have hrowR : RdBB _ (fun k => F k ∨ w.heap.size ≤ k) (.slice (some ⟨gr, 0, none⟩) 3 cr) (r.set s x) := (((HRow.out.anyG (G' := fun _ => False)).toRd okRV (F := fun k => F k ∨ w.heap.size ≤ k) (fun k hk => .inr (by omega)) (fun _ hk => hk.elim)).of_vals (R := RdB) (xs := r.set s x) (by rw [List.length_set, List.length_set, HHRS.out, HRL.out]) fun j u y hu hy => by
      by_cases hj : j = s
      · subst hj
        have hjr : j < r.length := by have := HRL.out; omega
        rw [List.getElem?_set_self (by omega)] at hu
        rw [List.getElem?_set_self hjr] at hy
        injection hu with hu
        injection hy with hy
        subst hu; subst hy
        exact okB.mono (okB.grow hx HBB.out) fun _ hk => .inl hk.1
      · rw [List.getElem?_set_ne (Ne.symm hj)] at hu hy
        exact okB.mono (okB.grow (hrR j u y hu hy) HBB.out) fun _ hk => .inl hk.1)
    refine ⟨_, _, rfl, ?_, okIs.mono (okIs.grow hI HBB.out) fun _ hk => .inl hk.1⟩
    unfold setA
    rw [HRG.out]
    refine ((HTop.out.anyG (G' := fun _ => False)).toRd okRV (F := fun k => F k ∨ w.heap.size ≤ k) (fun k hk => .inr (by omega)) (fun _ hk => hk.elim)).of_vals (R := RdBB) (by rw [List.length_set, List.length_set, HHUS.out, HS.out.1]) fun j u y hu hy => ?_
    by_cases hj : j = d
    · subst hj
      have hjr : j < a.disks.length := by rw [HS.out.1]; exact hd
      rw [List.getElem?_set_self (by omega)] at hu
      rw [List.getElem?_set_self hjr] at hy
      injection hu with hu
      injection hy with hy
      subst hu; subst hy
      exact hrowR
    · rw [List.getElem?_set_ne (Ne.symm hj)] at hu hy
      exact okBB.mono (okBB.grow (huR j u y hu hy) HBB.out) fun _ hk => .inl hk.1
theorem shape_set {D : List (List Bs)} (h : Shape D) (d s : Nat) {b : Bs} (hb : b.length ≤ 8) : Shape (setA D d s b) := by
  unfold setA
  refine ⟨by rw [List.length_set]; exact h.1, fun r hr => ?_⟩
  rcases List.mem_or_eq_of_mem_set hr with hr | rfl
  · exact h.2 r hr
  · by_cases hd : d < 4
    · obtain ⟨r, _, h2, h3, h4⟩ := h.row hd
      rw [h4]
      refine ⟨by rw [List.length_set]; exact h2, fun c hc => ?_⟩
      rcases List.mem_or_eq_of_mem_set hc with hc | rfl
      · exact h3 c hc
      · exact hb
    · rw [List.set_eq_of_length_le (by rw [h.1]; omega)] at hr
      have : D.getD d [] = [] := by simp [List.getD, List.getElem?_eq_none (show D.length ≤ d by rw [h.1]; omega)]
      rw [this] at hr ⊢
      exact h.2 _ hr
end Go.Proofs.Ytoendmbgfbhidaa

namespace Go.Proofs.Ytoendmbgfbhidaa
set_option linter.unusedVariables false
open Go Go.RowKit M
theorem where_eq (n : Nat) : where_ n = whereN n := rfl
theorem whereN_lt {n : Nat} (h : n < 9) : whereN n < 4 ∧ n / 3 < 3 := by unfold whereN; split <;> omega
/-- An array's value, opened. -/
theorem RdA_open {w : World} {F : Fp} {v : Value} {a : Arr} (h : RdA w F v a) (hsh : Shape a.disks) : ∃ b0 o0 c0 Ai ci, v = .agg #[.slice (some ⟨b0, o0, none⟩) 4 c0, .slice Ai a.ints.length ci] ∧ RdBBB w (fun k => F k ∧ k < w.heap.size) (.slice (some ⟨b0, o0, none⟩) 4 c0) a.disks ∧ RdIs w (fun k => F k ∧ k < w.heap.size) (.slice Ai a.ints.length ci) a.ints ∧ 4 ≤ c0 ∧ c0 ≤ 9223372036854775807 := by
  obtain ⟨dv, iv, rfl, hD, hI⟩ := h
  obtain ⟨b0, o0, c0, rfl, _, _, hc0, hc1⟩ := disks_form hD hsh
  obtain ⟨Ai, ci, rfl, _, _⟩ := hI.shape
  exact ⟨b0, o0, c0, Ai, ci, rfl, okBBB.lt hD, okIs.lt hI, hc0, by unfold maxLen at hc1; omega⟩
theorem readA_out {D : List (List Bs)} {n : Int} (h : ¬ InB n) : readA D n = ([], 3) := by unfold readA; rw [if_pos h]
theorem readA_own {D : List (List Bs)} {k : Nat} (hk : k < 9) (h : (readC (cellAt D (whereN k) (k / 3)) (whereN k : Nat) (k / 3 : Nat)).2 = 0) : readA D (k : Nat) = ((readC (cellAt D (whereN k) (k / 3)) (whereN k : Nat) (k / 3 : Nat)).1, 0) := by
  unfold readA
  rw [if_neg (by simp; omega)]
  simp only [Int.toNat_natCast]
  rw [if_pos h]
theorem readA_lost {D : List (List Bs)} {k : Nat} (hk : k < 9) (h : (readC (cellAt D (whereN k) (k / 3)) (whereN k : Nat) (k / 3 : Nat)).2 ≠ 0) (h2 : (dataL (cellsA D (k / 3)) (k / 3)).2 ≠ 0) : readA D (k : Nat) = ([], (dataL (cellsA D (k / 3)) (k / 3)).2) := by
  unfold readA
  rw [if_neg (by simp; omega)]
  simp only [Int.toNat_natCast]
  rw [if_neg h, if_pos h2]
theorem readA_had {D : List (List Bs)} {k : Nat} (hk : k < 9) (h : (readC (cellAt D (whereN k) (k / 3)) (whereN k : Nat) (k / 3 : Nat)).2 ≠ 0) (h2 : (dataL (cellsA D (k / 3)) (k / 3)).2 = 0) : readA D (k : Nat) = ((dataL (cellsA D (k / 3)) (k / 3)).1.getD (whereN k) [], 0) := by
  unfold readA
  rw [if_neg (by simp; omega)]
  simp only [Int.toNat_natCast]
  rw [if_neg h, if_neg (by simpa using h2)]
theorem dataL_len {l : List Bs} {s : Nat} (h : (dataL l s).2 = 0) : (dataL l s).1.length = l.length := by
  unfold dataL at h ⊢
  split
  · rename_i hb; rw [if_pos hb] at h; simp at h
  · exact datTo_len _ _ _
set_option maxRecDepth 100000 in
set_option maxHeartbeats 800000 in
theorem ref_Read (a : Arr) (n : Int) (v : Value) (F : Fp) (w : World) (h : RdA w F v a) (hsh : Shape a.disks) :
    Calls Try.prog 22 #[v, .int .i64 n] w fun e w' => ∃ v', e = .returned (.tuple #[v', .int .i64 (readA a.disks n).2]) ∧ RdB w' (fun k => F k ∨ w.heap.size ≤ k) v' (readA a.disks n).1 ∧ Below w.heap.size w w' := by
  obtain ⟨b0, o0, c0, Ai, ci, rfl, hD, hI, hc0, hc1⟩ := RdA_open h hsh
  have hA := boxAt_new w 30 [.slice (some ⟨b0, o0, none⟩) 4 c0, .slice Ai a.ints.length ci]
  have hB := below_alloc w (.cells #[.slice (some ⟨b0, o0, none⟩) 4 c0, .slice Ai a.ints.length ci] 30)
  change BoxAt (w.alloc (.cells #[.slice (some ⟨b0, o0, none⟩) 4 c0, .slice Ai a.ints.length ci] 30)) _ _ _ at hA
  have HS := Lib.hid hsh
  clear hsh
  by_cases hn : InB n
  rotate_left
  · rw [readA_out hn]
    have hn' : n < 0 ∨ 9 ≤ n := by omega
    clear hn
    go_enter Try.func22, Try.ntmps22
    go_wp2_with fail
    refine (ref_Where_no n _ hn').mono ?_
    rintro e w2 ⟨rfl, hb2⟩
    go_wp2
    go_ret2
    exact ⟨_, rfl, RdL.nil_ _ _ _ _ _ (by decide), hB.trans (hb2.mono hB.size)⟩
  obtain ⟨k, rfl⟩ := Int.eq_ofNat_of_zero_le hn.1
  have hk : k < 9 := by omega
  obtain ⟨hd4, hs3⟩ := whereN_lt hk
  clear hn
  go_enter Try.func22, Try.ntmps22
  go_wp2_with fail
  refine (ref_Where k _ hk).mono ?_
  rintro e w2 ⟨rfl, hb2⟩
  rw [where_eq]
  have HX := Lib.hid (Int.natCast_ediv k 3)
  obtain ⟨d, hd⟩ : ∃ d, whereN k = d := ⟨_, rfl⟩
  obtain ⟨s, hs⟩ : ∃ s, k / 3 = s := ⟨_, rfl⟩
  have R1 := @readA_own a.disks k hk
  have R2 := @readA_lost a.disks k hk
  have R3 := @readA_had a.disks k hk
  rw [hd, hs] at R1 R2 R3
  rw [hd] at hd4 ⊢
  rw [hs] at hs3 ⊢
  have HR1 := Lib.hid R1
  have HR2 := Lib.hid R2
  have HR3 := Lib.hid R3
  clear R1 R2 R3 hd hs HX
  have hA2 := hA.grow hb2
  have hB2 := hB.trans (hb2.mono hB.size)
  have hD2 := okBBB.grow hD hB2
  have hI2 := okIs.grow hI hB2
  obtain ⟨b1, o1, c1, A3, c3, hu1, hc2, hc3, hu2, hR⟩ := disks_cell hD2 HS.out hd4 hs3
  unfold maxLen at hc3
  obtain ⟨x0, x1, _⟩ := hA2.two
  clear hb2 hA hB
  go_wp2_with fail
  refine (ref_CellRead _ d s _ _ _ hR).mono ?_
  rintro e w3 ⟨v3, rfl, hr3, hb3⟩
  have hB3 := hB2.trans (hb3.mono hB2.size)
  have hA3 := hA2.grow hb3
  clear x0 x1 hu1 hu2
  by_cases h0 : (readC (cellAt a.disks d s) d s).2 = 0
  · have H0 := Lib.hid h0
    rw [h0]
    have HR := Lib.hid (okB.mono hr3 (F' := fun k => F k ∨ w.heap.size ≤ k) fun _ hk => .inl hk.1)
    clear h0 hr3
    go_wp2
    go_ret2
    rw [HR1.out H0.out]
    exact ⟨_, rfl, HR.out, hB3⟩
  have h0' : ((readC (cellAt a.disks d s) d s).2 == 0) = false := by simpa using h0
  have H0 := Lib.hid h0
  generalize hrr : (readC (cellAt a.disks d s) d s).2 = r at *
  have HRR := Lib.hid hrr
  obtain ⟨y0, y1, _⟩ := hA3.two
  clear h0 hrr hr3
  go_wp2_with fail
  refine (ref_Cells a s _ _ _ ⟨_, _, rfl, okBBB.grow hD2 hb3, okIs.grow hI2 hb3⟩ HS.out hs3).mono ?_
  rintro e w4 ⟨v4, rfl, hv4, hb4⟩
  have hB4 := hB3.trans (hb4.mono hB3.size)
  have hr4 := hv4.toRd okB (F := fun k => F k ∨ w.heap.size ≤ k) (fun k hk => .inr (Nat.le_trans hB3.size hk)) (fun k hk => hk.elim (fun h => .inl h.1) fun h => .inr (Nat.le_trans hB3.size h))
  have HL4 := Lib.hid (show (cellsA a.disks s).length = 4 by rw [cellsA_len, HS.out.1])
  clear y0 y1 hv4
  go_wp2_with fail
  refine (ref_Data (cellsA a.disks s) s _ _ _ hr4 (by rw [HL4.out]; decide)).mono ?_
  rintro e w5 ⟨v5, rfl, hv5, hb5⟩
  have hB5 := hB4.trans (hb5.mono hB4.size)
  by_cases h9 : (dataL (cellsA a.disks s) s).2 = 0
  · have HL5 := Lib.hid (show (dataL (cellsA a.disks s) s).1.length = 4 by rw [dataL_len h9, HL4.out])
    have H3 := Lib.hid (HR3.out H0.out h9)
    rw [h9]
    have hr5 := hv5.toRd okB (F := fun k => F k ∨ w.heap.size ≤ k) (fun k hk => .inr (Nat.le_trans hB4.size hk)) (fun k hk => hk.elim id fun h => .inr (Nat.le_trans hB4.size h))
    obtain ⟨g5, o5, c5, rfl, _, _, _, _⟩ := hr5.form (by rw [HL5.out]; decide)
    have hl5 := HL5.out
    rw [hl5] at hr5 ⊢
    obtain ⟨u, hu, hRu⟩ := RdL_q hr5 (k := d) (x := (dataL (cellsA a.disks s) s).1.getD d []) (by simp [List.getD, List.getElem?_eq_getElem (show d < (dataL (cellsA a.disks s) s).1.length by omega)])
    have HRu := Lib.hid hRu
    clear hv5 hr5 hRu hl5 h9 hb5 HR1 HR2 HR3
    go_wp2
    go_ret2
    rw [H3.out]
    exact ⟨_, rfl, HRu.out, hB5⟩
  · have H3 := Lib.hid (HR2.out H0.out h9)
    have h9' : ((dataL (cellsA a.disks s) s).2 != 0) = true := by simpa using h9
    clear hv5 HR1 HR2 HR3 h9
    generalize (dataL (cellsA a.disks s) s).2 = q at *
    go_wp2
    go_ret2
    rw [H3.out]
    exact ⟨_, rfl, RdL.nil_ _ _ _ _ _ (by decide), hB5⟩
/-- The first error of the blocks. -/
theorem blocksE_first {D : List (List Bs)} {k : Nat} (hk : k < 9) (h : ∀ j, j < k → (readA D (j : Nat)).2 = 0) (he : (readA D (k : Nat)).2 ≠ 0) : blocksE D = (readA D (k : Nat)).2 := by
  unfold blocksE
  have : ((List.range 9).map fun n => (readA D (n : Nat)).2).find? (fun e => e ≠ 0) = some (readA D (k : Nat)).2 := by
    rw [List.find?_eq_some_iff_getElem]
    refine ⟨by simpa using he, k, by simpa using hk, by simp, fun j hj => ?_⟩
    simp [h j hj]
  rw [this]
  rfl
theorem blocksE_none {D : List (List Bs)} (h : ∀ j, j < 9 → (readA D (j : Nat)).2 = 0) : blocksE D = 0 := by
  unfold blocksE
  have : ((List.range 9).map fun n => (readA D (n : Nat)).2).find? (fun e => e ≠ 0) = none := by
    rw [List.find?_eq_none]
    intro e he
    simp only [List.mem_map, List.mem_range] at he
    obtain ⟨j, hj, rfl⟩ := he
    simp [h j hj]
  rw [this]
  rfl
theorem blocksTo_next (D : List (List Bs)) (k : Nat) : blocksTo D (k + 1) = blocksTo D k ++ [(readA D (k : Nat)).1] := by unfold blocksTo; rw [List.range_succ]; simp
theorem blocksTo_len (D : List (List Bs)) (k : Nat) : (blocksTo D k).length = k := by simp [blocksTo]
set_option maxRecDepth 100000 in
set_option maxHeartbeats 800000 in
theorem ref_Blocks (a : Arr) (v : Value) (F : Fp) (w : World) (h : RdA w F v a) (hsh : Shape a.disks) :
    Calls Try.prog 24 #[v] w fun e w' => ∃ v', e = .returned (.tuple #[v', .int .i64 (blocksA a.disks).2]) ∧ RdBB w' (fun k => F k ∨ w.heap.size ≤ k) v' (blocksA a.disks).1 ∧ Below w.heap.size w w' := by
  obtain ⟨b0, o0, c0, Ai, ci, rfl, hD, hI, hc0, hc1⟩ := RdA_open h hsh
  have hA := boxAt_new w 30 [.slice (some ⟨b0, o0, none⟩) 4 c0, .slice Ai a.ints.length ci]
  have hB := below_alloc w (.cells #[.slice (some ⟨b0, o0, none⟩) 4 c0, .slice Ai a.ints.length ci] 30)
  change BoxAt (w.alloc (.cells #[.slice (some ⟨b0, o0, none⟩) 4 c0, .slice Ai a.ints.length ci] 30)) _ _ _ at hA
  have HS := Lib.hid hsh
  clear hsh
  go_enter Try.func24, Try.ntmps24
  go_wp2_with fail
  generalize w.alloc (.cells #[.slice (some ⟨b0, o0, none⟩) 4 c0, .slice Ai a.ints.length ci] 30) = w1 at *
  replace hD := okBBB.grow hD hB
  replace hI := okIs.grow hI hB
  go_loopw [4, 8] (fun u i wr => ∃ k : Nat, k ≤ 9 ∧ i = .int .i64 k ∧ Bld RdB 23 wr w1.heap.size (fun k => F k ∨ w.heap.size ≤ k) u (blocksTo a.disks k) ∧ (∀ j, j < k → (readA a.disks (j : Nat)).2 = 0) ∧ Below w1.heap.size w1 wr) (fun _ i _ => 9 - (intOf i).toNat)
  case atStart => exact ⟨0, Nat.zero_le _, rfl, Bld.nil_ _ _ _ _ _, fun j hj => by omega, Below.refl _ _⟩
  case round =>
    obtain ⟨k, hk, rfl, hO, hpre, hlw⟩ := hrel
    have HP := Lib.hid hpre
    have HLW := Lib.hid hlw
    clear hpre
    by_cases hlt : k < 9
    · obtain ⟨x0, x1, _⟩ := (hA.grow hlw).two
      have HO := Lib.hid hO
      have HT := Lib.hid (show ((blocksTo a.disks k).length + 1) * 24 ≤ 140737488355328 by rw [blocksTo_len]; omega)
      have HX := Lib.hid (blocksTo_next a.disks k)
      clear hO
      go_wp2_with fail
      refine (ref_Read a k _ _ _ ⟨_, _, rfl, okBBB.grow hD hlw, okIs.grow hI hlw⟩ HS.out).mono ?_
      rintro e w2 ⟨v2, rfl, hr2, hb2⟩
      have HB2 := Lib.hid hb2
      have HB02 := Lib.hid (hB.trans ((hlw.trans (hb2.mono hlw.size)).mono hB.size))
      have hsz := hB.size
      have hszw := hlw.size
      by_cases he : (readA a.disks (k : Nat)).2 = 0
      · rw [he]
        have HE := Lib.hid he
        obtain ⟨A2, c2, rfl, _, _⟩ := hr2.shape
        have HZ := Lib.hid (okB.mono (okB.lt hr2) (F' := fun k => some k ≠ u4.ownBlock ∧ (F k ∨ w.heap.size ≤ k)) fun k hk => ⟨fun e => by
          have h1 := HO.out.blk k e.symm
          rcases hk.1 with h | h
          · have := h.2; omega
          · omega, hk.1.imp (fun h => h.1) fun h => by omega⟩)
        clear he hr2 x0 x1 hb2 hlw
        go_wp2_with (at_builtin; refine wpList_append_oneG rfl _ _ 41 rfl okB slBB w1.heap.size (fun k => F k ∨ w.heap.size ≤ k) _ _ (readA a.disks (k : Nat)).1 _ rfl (by rfl) (by rfl) (HO.out.grow okB HB2.out) HZ.out (fun k hk => .inr (Nat.le_trans hsz hk)) HT.out (Nat.le_trans hszw HB2.out.size) ?c1)
        case c1 =>
        intro v' w' hB' hb
        rw [← HX.out] at hB'
        go_wp2
        go_roundw
        case rel => exact ⟨k + 1, by omega, by go_num, hB', fun j hj => by rcases Nat.lt_succ_iff_lt_or_eq.1 hj with h | rfl; exact HP.out j h; exact HE.out, HLW.out.trans ((HB2.out.mono HLW.out.size).trans hb)⟩
        case measure => simp [intOf]; omega
      · have hbe := blocksE_first hlt HP.out he
        have HBA := Lib.hid (show blocksA a.disks = ([], (readA a.disks (k : Nat)).2) by unfold blocksA; rw [if_neg (by rw [hbe]; exact he), hbe])
        have he' : ((readA a.disks (k : Nat)).2 != 0) = true := by simpa using he
        clear hbe he hr2 x0 x1
        generalize (readA a.disks (k : Nat)).2 = q at *
        go_wp2
        go_ret2
        rw [HBA.out]
        exact ⟨_, rfl, RdL.nil_ _ _ _ _ _ (by decide), HB02.out⟩
    · obtain rfl : k = 9 := by omega
      have hbe := blocksE_none HP.out
      have HBA := Lib.hid (show blocksA a.disks = (blocksTo a.disks 9, 0) by unfold blocksA; rw [if_pos hbe])
      clear hbe
      have hr := hO.toRd okB (F := fun k => F k ∨ w.heap.size ≤ k) (fun k hk => .inr (Nat.le_trans hB.size hk)) (fun _ hk => hk)
      have HB02 := Lib.hid (hB.trans (hlw.mono hB.size))
      clear hO
      go_wp2
      go_ret2
      rw [HBA.out]
      exact ⟨_, rfl, hr, HB02.out⟩
theorem worstTo_next (D : List (List Bs)) (k : Nat) : worstTo D (k + 1) = max (worstTo D k) (badL (cellsA D k) k).length := by unfold worstTo; rw [List.range_succ]; simp
theorem badL_le (l : List Bs) (s : Nat) : (badL l s).length ≤ l.length := badTo_len l s _
set_option maxHeartbeats 800000 in
theorem ref_Worst (a : Arr) (v : Value) (F : Fp) (w : World) (h : RdA w F v a) (hsh : Shape a.disks) :
    Calls Try.prog 41 #[v] w fun e w' => e = .returned (.int .i64 ((worstA a.disks : Nat) : Int)) ∧ Below w.heap.size w w' := by
  obtain ⟨b0, o0, c0, Ai, ci, rfl, hD, hI, hc0, hc1⟩ := RdA_open h hsh
  have hA := boxAt_new w 30 [.slice (some ⟨b0, o0, none⟩) 4 c0, .slice Ai a.ints.length ci]
  have hB := below_alloc w (.cells #[.slice (some ⟨b0, o0, none⟩) 4 c0, .slice Ai a.ints.length ci] 30)
  change BoxAt (w.alloc (.cells #[.slice (some ⟨b0, o0, none⟩) 4 c0, .slice Ai a.ints.length ci] 30)) _ _ _ at hA
  have HS := Lib.hid hsh
  clear hsh
  go_enter Try.func41, Try.ntmps41
  go_wp2_with fail
  generalize w.alloc (.cells #[.slice (some ⟨b0, o0, none⟩) 4 c0, .slice Ai a.ints.length ci] 30) = w1 at *
  replace hD := okBBB.grow hD hB
  replace hI := okIs.grow hI hB
  go_loopw [3, 6] (fun u i wr => ∃ k : Nat, k ≤ 3 ∧ i = .int .i64 k ∧ u = .int .i64 ((worstTo a.disks k : Nat) : Int) ∧ worstTo a.disks k ≤ 4 ∧ Below w1.heap.size w1 wr) (fun _ i _ => 3 - (intOf i).toNat)
  case atStart => exact ⟨0, Nat.zero_le _, rfl, rfl, Nat.zero_le _, Below.refl _ _⟩
  case round =>
    obtain ⟨k, hk, rfl, rfl, hw4, hlw⟩ := hrel
    by_cases hlt : k < 3
    · obtain ⟨x0, x1, _⟩ := (hA.grow hlw).two
      have HN := Lib.hid (worstTo_next a.disks k)
      have hbl := badL_le (cellsA a.disks k) k
      have HL := Lib.hid (show (cellsA a.disks k).length = 4 by rw [cellsA_len, HS.out.1])
      rw [HL.out] at hbl
      go_wp2_with fail
      refine (ref_Cells a k _ _ _ ⟨_, _, rfl, okBBB.grow hD hlw, okIs.grow hI hlw⟩ HS.out hlt).mono ?_
      rintro e w2 ⟨v2, rfl, hv2, hb2⟩
      have hr2 := hv2.toRd_ okB
      clear x0 x1 hv2
      go_wp2_with fail
      refine (ref_Bad _ k _ _ _ hr2 (by rw [HL.out]; decide)).mono ?_
      rintro e w3 ⟨v3, rfl, hv3, hb3⟩
      obtain ⟨A3, c3, rfl, _, _⟩ := (hv3.toRd_ okI).shape
      rw [ints_len]
      have HB3 := Lib.hid (hlw.trans ((hb2.trans (hb3.mono hb2.size)).mono hlw.size))
      clear hv3 hr2 hb2 hb3 hlw
      generalize (badL (cellsA a.disks k) k).length = n at *
      generalize worstTo a.disks k = m at *
      by_cases hmn : m < n
      · have hd : decide ((m : Int) < (n : Int)) = true := by simp; omega
        go_wp2
        go_roundw
        case rel => exact ⟨k + 1, by omega, by go_num, by rw [HN.out, Nat.max_eq_right (by omega)], by rw [HN.out, Nat.max_eq_right (by omega)]; exact hbl, HB3.out⟩
        case measure => simp [intOf]; omega
      · have hd : decide ((m : Int) < (n : Int)) = false := by simp; omega
        go_wp2
        go_roundw
        case rel => exact ⟨k + 1, by omega, by go_num, by rw [HN.out, Nat.max_eq_left (by omega)], by rw [HN.out, Nat.max_eq_left (by omega)]; exact hw4, HB3.out⟩
        case measure => simp [intOf]; omega
    · obtain rfl : k = 3 := by omega
      go_wp2
      go_ret
      exact ⟨rfl, hB.trans (hlw.mono hB.size)⟩
end Go.Proofs.Ytoendmbgfbhidaa

namespace Go.Proofs.Ytoendmbgfbhidaa
set_option linter.unusedVariables false
open Go Go.RowKit M
theorem gone_out {a : Arr} {d : Int} (h : d < 0 ∨ 4 ≤ d) : goneA a d = (a, 6) := by unfold goneA; rw [if_pos h]
theorem gone_in {a : Arr} {d : Nat} (h : d < 4) : goneA a (d : Nat) = (⟨a.disks.set d [[], [], []], a.ints⟩, 0) := by unfold goneA; rw [if_neg (by omega)]; simp
/-- A disk's cells, so many of them none. -/
def goneTo (D : List (List Bs)) (d k : Nat) : List (List Bs) := (List.range k).foldl (fun D s => setA D d s []) D
theorem goneTo_next (D : List (List Bs)) (d k : Nat) : goneTo D d (k + 1) = setA (goneTo D d k) d k [] := by unfold goneTo; rw [List.range_succ]; simp
theorem goneTo_shape {D : List (List Bs)} (h : Shape D) (d k : Nat) : Shape (goneTo D d k) := by
  induction k with
  | zero => exact h
  | succ k ih => rw [goneTo_next]; exact shape_set ih d k (by simp)
theorem goneTo_all {D : List (List Bs)} (h : Shape D) {d : Nat} (hd : d < 4) : goneTo D d 3 = D.set d [[], [], []] := by
  obtain ⟨r, h1, h2, _, h4⟩ := h.row hd
  have hl : d < D.length := by rw [h.1]; exact hd
  match r, h2 with
  | [x, y, z], _ =>
    show setA (setA (setA D d 0 []) d 1 []) d 2 [] = _
    unfold setA
    simp only [List.getD, List.getElem?_set_self hl, Option.getD_some, List.set_set, h1]
    rfl
set_option maxRecDepth 100000 in
set_option maxHeartbeats 800000 in
theorem ref_Gone (a : Arr) (d : Int) (v : Value) (F : Fp) (w : World) (h : RdA w F v a) (hsh : Shape a.disks) :
    Calls Try.prog 42 #[v, .int .i64 d] w fun e w' => ∃ v', e = .returned (.tuple #[v', .int .i64 (goneA a d).2]) ∧ RdA w' (fun k => F k ∨ w.heap.size ≤ k) v' (goneA a d).1 ∧ Below w.heap.size w w' := by
  obtain ⟨b0, o0, c0, Ai, ci, rfl, hD, hI, hc0, hc1⟩ := RdA_open h hsh
  obtain ⟨hA, hR, hB, hsz⟩ := two_boxes w (.slice (some ⟨b0, o0, none⟩) 4 c0) (.slice Ai a.ints.length ci) 30
  obtain ⟨x0, x1, x2, x3⟩ := hA.two
  obtain ⟨y0, y1, y2, y3⟩ := hR.two
  by_cases hd : d < 0 ∨ 4 ≤ d
  · have hB0 := below_alloc w (.cells #[.slice (some ⟨b0, o0, none⟩) 4 c0, .slice Ai a.ints.length ci] 30)
    have hB2 := hB0.trans ((below_alloc (w.alloc (.cells #[.slice (some ⟨b0, o0, none⟩) 4 c0, .slice Ai a.ints.length ci] 30)) (.cells #[.slice (some ⟨b0, o0, none⟩) 4 c0, .slice Ai a.ints.length ci] 30)).mono hB0.size)
    have hA2 : RdA _ (fun k => F k ∨ w.heap.size ≤ k) _ a := RdA.mono (F := fun k => F k ∧ k < w.heap.size) ⟨_, _, rfl, okBBB.grow hD hB2, okIs.grow hI hB2⟩ fun k hk => .inl hk.1
    have HA2 := Lib.hid hA2
    have HB2 := Lib.hid hB2
    rw [gone_out hd]
    clear hA2 hB2 h hD hI hA hR hB hsz
    rcases hd with hd | hd
    · go_enter Try.func42, Try.ntmps42
      go_wp2
      exact bodyPost_ret (v := .tuple #[.agg #[.slice (some ⟨b0, o0, none⟩) 4 c0, .slice Ai a.ints.length ci], .int .i64 6]) (by simp [results, Try.results42, go_sem, *]) rfl ⟨_, rfl, HA2.out, HB2.out⟩
    · go_enter Try.func42, Try.ntmps42
      go_wp2
      exact bodyPost_ret (v := .tuple #[.agg #[.slice (some ⟨b0, o0, none⟩) 4 c0, .slice Ai a.ints.length ci], .int .i64 6]) (by simp [results, Try.results42, go_sem, *]) rfl ⟨_, rfl, HA2.out, HB2.out⟩
  · obtain ⟨d, rfl⟩ := Int.eq_ofNat_of_zero_le (show 0 ≤ d by omega)
    have hd4 : d < 4 := by omega
    rw [gone_in hd4, ← goneTo_all hsh hd4]
    have HS := Lib.hid hsh
    clear hd hsh h
    go_enter Try.func42, Try.ntmps42
    go_wp2_with fail
    generalize (w.alloc (.cells #[.slice (some ⟨b0, o0, none⟩) 4 c0, .slice Ai a.ints.length ci] 30)).alloc (.cells #[.slice none 0 0, .slice none 0 0] 30) = w1 at *
    have HSZ := Lib.hid hsz
    clear x0 x1 x2 x3 y0 y1 y2 y3 hsz
    go_loopw [14] (fun i wr => ∃ k : Nat, k ≤ 3 ∧ i = .int .i64 k ∧ (∃ dv iv, BoxAt wr w.heap.size 30 [dv, iv] ∧ RdA wr (fun k => F k ∧ k < w.heap.size ∨ w.heap.size + 2 ≤ k) (.agg #[dv, iv]) ⟨goneTo a.disks d k, a.ints⟩) ∧ BoxAt wr (w.heap.size + 1) 30 [.slice none 0 0, .slice none 0 0] ∧ Below w.heap.size w wr ∧ w.heap.size + 2 ≤ wr.heap.size) (fun i _ => 3 - (intOf i).toNat)
    case atStart => exact ⟨0, Nat.zero_le _, rfl, ⟨_, _, hA, ⟨_, _, rfl, okBBB.mono (okBBB.grow hD hB) fun _ hk => .inl hk, okIs.mono (okIs.grow hI hB) fun _ hk => .inl hk⟩⟩, hR, hB, by rw [HSZ.out]; exact Nat.le_refl _⟩
    case round =>
      obtain ⟨k, hk, rfl, ⟨dv, iv, hA1, hR1⟩, hRb, hBw, hsw⟩ := hrel
      by_cases hlt : k < 3
      · have hsk := goneTo_shape HS.out d k
        obtain ⟨b1, o1, c1, A1, c2, hag, _, _, _, _⟩ := RdA_open hR1 hsk
        injection hag with hag
        simp only [Array.mk.injEq, List.cons.injEq, and_true] at hag
        obtain ⟨rfl, rfl⟩ := hag
        obtain ⟨x0, x1, x2, x3⟩ := hA1.two
        have HN := Lib.hid (goneTo_next a.disks d k)
        have hnil : RdB wr (fun _ => False) (.slice none 0 0) [] := RdL.nil_ _ _ _ _ _ (by decide)
        go_wp2_with fail
        refine (ref_with ⟨goneTo a.disks d k, a.ints⟩ d k [] _ _ _ _ hR1 (okB.mono hnil fun _ hk => hk.elim) hsk hd4 hlt).mono ?_
        rintro e w2 ⟨v2, rfl, hr2, hb2⟩
        have hsh2 : Shape (setA (goneTo a.disks d k) d k []) := shape_set hsk d k (by simp)
        obtain ⟨b3, o3, c3, A3, c4, rfl, _, _, _, _⟩ := RdA_open hr2 hsh2
        have hA2 := hA1.grow hb2
        have hRb2 := hRb.grow hb2
        obtain ⟨z0, z1, z2, z3⟩ := hA2.two
        have hA3 : BoxAt (set2 w2 w.heap.size (.slice (some ⟨b3, o3, none⟩) 4 c3) (.slice A3 a.ints.length c4)) _ _ _ := hA2.put2
        have hRb3 : BoxAt (set2 w2 w.heap.size (.slice (some ⟨b3, o3, none⟩) 4 c3) (.slice A3 a.ints.length c4)) _ _ _ := hRb2.far2 (by omega)
        have hr3 : RdA (set2 w2 w.heap.size (.slice (some ⟨b3, o3, none⟩) 4 c3) (.slice A3 a.ints.length c4)) _ _ _ := hr2.set2 (b := w.heap.size) fun k hk => by rcases hk with (hk | hk) | hk <;> omega
        have hb3 := (hBw.trans (hb2.mono hBw.size)).trans (below_set2 (b := w.heap.size) (v0 := .slice (some ⟨b3, o3, none⟩) 4 c3) (v1 := .slice A3 a.ints.length c4) (Nat.le_refl _))
        have hs3 : w.heap.size + 2 ≤ (set2 w2 w.heap.size (.slice (some ⟨b3, o3, none⟩) 4 c3) (.slice A3 a.ints.length c4)).heap.size := by rw [set2_size]; have := hb2.size; omega
        have H := Lib.hid (And.intro hA3 (And.intro hr3 (And.intro hRb3 (And.intro hb3 hs3))))
        clear hA3 hr3 hRb3 hb3 hs3 hr2 hb2 hA2 hRb2 hR1 hA1 hRb hBw x0 x1 x2 x3
        go_wp2_with fail
        go_roundw
        case rel => exact ⟨k + 1, by omega, by go_num, ⟨_, _, H.out.1, by rw [HN.out]; exact H.out.2.1.mono fun k hk => hk.elim id fun h => .inr (by omega)⟩, H.out.2.2.1, H.out.2.2.2.1, H.out.2.2.2.2⟩
        case measure => simp [intOf]; omega
      · obtain rfl : k = 3 := by omega
        have hsk := goneTo_shape HS.out d 3
        obtain ⟨b1, o1, c1, A1, c2, hag, _, _, _, _⟩ := RdA_open hR1 hsk
        injection hag with hag
        simp only [Array.mk.injEq, List.cons.injEq, and_true] at hag
        obtain ⟨rfl, rfl⟩ := hag
        obtain ⟨x0, x1, x2, x3⟩ := hA1.two
        obtain ⟨y0, y1, y2, y3⟩ := hRb.two
        have hr3 : RdA (set2 wr (w.heap.size + 1) (.slice (some ⟨b1, o1, none⟩) 4 c1) (.slice A1 a.ints.length c2)) _ _ _ := hR1.set2 (b := w.heap.size + 1) fun k hk => by omega
        have hb3 := hBw.trans (below_set2 (b := w.heap.size + 1) (v0 := .slice (some ⟨b1, o1, none⟩) 4 c1) (v1 := .slice A1 a.ints.length c2) (Nat.le_succ _))
        have H := Lib.hid (And.intro hr3 hb3)
        clear hr3 hb3 hR1 hA1 hRb hBw
        go_wp2_with fail
        exact bodyPost_ret (v := .tuple #[.agg #[.slice (some ⟨b1, o1, none⟩) 4 c1, .slice A1 a.ints.length c2], .int .i64 0]) (by simp [results, Try.results42, go_sem, *]) rfl ⟨_, rfl, H.out.1.mono fun k hk => hk.elim (fun h => .inl h.1) fun h => .inr (by omega), H.out.2⟩
end Go.Proofs.Ytoendmbgfbhidaa

namespace Go.Proofs.Ytoendmbgfbhidaa
set_option linter.unusedVariables false
open Go Go.RowKit M
theorem xor_one : ∀ n, n < 256 → (n ^^^ 1 : Nat) = if n % 2 = 0 then n + 1 else n - 1 := by decide +kernel
theorem at8_turn {b : Bs} {n : Nat} (h : n < b.length) : ((b.getD n 0 ^^^ 1).toNat : Int) = if at8 b n % 2 = 0 then at8 b n + 1 else at8 b n - 1 := by
  unfold at8
  have hx := xor_one (b.getD n 0).toNat (b.getD n 0).toNat_lt
  rw [show (b.getD n 0 ^^^ 1).toNat = (b.getD n 0).toNat ^^^ 1 by rw [UInt8.toNat_xor]; rfl, hx]
  split <;> split <;> omega
theorem rot_no {a : Arr} {d s n : Int} (h : thereB d s = false ∨ n < 0 ∨ ((cellAt a.disks d.toNat s.toNat).length : Int) ≤ n) : rotA a d s n = (a, 6) := by unfold rotA; rw [if_pos h]
theorem rot_yes {a : Arr} {d s n : Nat} (hd : d < 4) (hs : s < 3) (hn : n < (cellAt a.disks d s).length) : rotA a (d : Nat) (s : Nat) (n : Nat) = (⟨setA a.disks d s ((cellAt a.disks d s).set n ((cellAt a.disks d s).getD n 0 ^^^ 1)), a.ints⟩, 0) := by
  unfold rotA
  rw [if_neg]
  · simp
  · simp only [Int.toNat_natCast, not_or]
    refine ⟨by rw [thereB_iff.2 ⟨by omega, by omega, by omega, by omega⟩]; decide, by omega, by omega⟩
set_option maxRecDepth 100000 in
set_option maxHeartbeats 1600000 in
theorem ref_Rot (a : Arr) (d s n : Int) (v : Value) (F : Fp) (w : World) (h : RdA w F v a) (hsh : Shape a.disks) :
    Calls Try.prog 74 #[v, .int .i64 d, .int .i64 s, .int .i64 n] w fun e w' => ∃ v', e = .returned (.tuple #[v', .int .i64 (rotA a d s n).2]) ∧ RdA w' (fun k => F k ∨ w.heap.size ≤ k) v' (rotA a d s n).1 ∧ Below w.heap.size w w' := by
  obtain ⟨b0, o0, c0, Ai, ci, rfl, hD, hI, hc0, hc1⟩ := RdA_open h hsh
  by_cases hno : d < 0 ∨ 3 < d ∨ s < 0 ∨ 2 < s ∨ n < 0
  · have hB0 := below_alloc w (.cells #[.slice (some ⟨b0, o0, none⟩) 4 c0, .slice Ai a.ints.length ci] 30)
    have hB2 := hB0.trans ((below_alloc (w.alloc (.cells #[.slice (some ⟨b0, o0, none⟩) 4 c0, .slice Ai a.ints.length ci] 30)) (.cells #[.slice (some ⟨b0, o0, none⟩) 4 c0, .slice Ai a.ints.length ci] 30)).mono hB0.size)
    have hA2 : RdA _ (fun k => F k ∨ w.heap.size ≤ k) _ a := RdA.mono (F := fun k => F k ∧ k < w.heap.size) ⟨_, _, rfl, okBBB.grow hD hB2, okIs.grow hI hB2⟩ fun k hk => .inl hk.1
    obtain ⟨hA, hR, hB, hsz⟩ := two_boxes w (.slice (some ⟨b0, o0, none⟩) 4 c0) (.slice Ai a.ints.length ci) 30
    obtain ⟨x0, x1, x2, x3⟩ := hA.two
    obtain ⟨y0, y1, y2, y3⟩ := hR.two
    have HA2 := Lib.hid hA2
    have HB2 := Lib.hid hB2
    rw [rot_no (show thereB d s = false ∨ n < 0 ∨ ((cellAt a.disks d.toNat s.toNat).length : Int) ≤ n by
      by_cases hn : n < 0
      · exact .inr (.inl hn)
      · left
        cases ht : thereB d s with
        | false => rfl
        | true => have := thereB_iff.1 ht; omega)]
    clear hA2 hB2 hB0 h hD hI hA hR hB hsz
    by_cases h1 : d < 0
    · go_enter Try.func74, Try.ntmps74
      go_wp2
      exact bodyPost_ret (v := .tuple #[.agg #[.slice (some ⟨b0, o0, none⟩) 4 c0, .slice Ai a.ints.length ci], .int .i64 6]) (by simp [results, Try.results74, go_sem, *]) rfl ⟨_, rfl, HA2.out, HB2.out⟩
    by_cases h2 : 3 < d
    · go_enter Try.func74, Try.ntmps74
      go_wp2
      exact bodyPost_ret (v := .tuple #[.agg #[.slice (some ⟨b0, o0, none⟩) 4 c0, .slice Ai a.ints.length ci], .int .i64 6]) (by simp [results, Try.results74, go_sem, *]) rfl ⟨_, rfl, HA2.out, HB2.out⟩
    by_cases h3 : s < 0
    · go_enter Try.func74, Try.ntmps74
      go_wp2
      exact bodyPost_ret (v := .tuple #[.agg #[.slice (some ⟨b0, o0, none⟩) 4 c0, .slice Ai a.ints.length ci], .int .i64 6]) (by simp [results, Try.results74, go_sem, *]) rfl ⟨_, rfl, HA2.out, HB2.out⟩
    by_cases h4 : 2 < s
    · go_enter Try.func74, Try.ntmps74
      go_wp2
      exact bodyPost_ret (v := .tuple #[.agg #[.slice (some ⟨b0, o0, none⟩) 4 c0, .slice Ai a.ints.length ci], .int .i64 6]) (by simp [results, Try.results74, go_sem, *]) rfl ⟨_, rfl, HA2.out, HB2.out⟩
    have h5 : n < 0 := by omega
    clear hno
    go_enter Try.func74, Try.ntmps74
    go_wp2
    exact bodyPost_ret (v := .tuple #[.agg #[.slice (some ⟨b0, o0, none⟩) 4 c0, .slice Ai a.ints.length ci], .int .i64 6]) (by simp [results, Try.results74, go_sem, *]) rfl ⟨_, rfl, HA2.out, HB2.out⟩
  obtain ⟨d, rfl⟩ := Int.eq_ofNat_of_zero_le (show 0 ≤ d by omega)
  obtain ⟨s, rfl⟩ := Int.eq_ofNat_of_zero_le (show 0 ≤ s by omega)
  obtain ⟨n, rfl⟩ := Int.eq_ofNat_of_zero_le (show 0 ≤ n by omega)
  have hd : d < 4 := by omega
  have hs : s < 3 := by omega
  clear hno
  by_cases hn : n < (cellAt a.disks d s).length
  rotate_left
  · have hB0 := below_alloc w (.cells #[.slice (some ⟨b0, o0, none⟩) 4 c0, .slice Ai a.ints.length ci] 30)
    have hB2 := hB0.trans ((below_alloc (w.alloc (.cells #[.slice (some ⟨b0, o0, none⟩) 4 c0, .slice Ai a.ints.length ci] 30)) (.cells #[.slice (some ⟨b0, o0, none⟩) 4 c0, .slice Ai a.ints.length ci] 30)).mono hB0.size)
    have hA2 : RdA _ (fun k => F k ∨ w.heap.size ≤ k) _ a := RdA.mono (F := fun k => F k ∧ k < w.heap.size) ⟨_, _, rfl, okBBB.grow hD hB2, okIs.grow hI hB2⟩ fun k hk => .inl hk.1
    obtain ⟨hA, hR, hB, hsz⟩ := two_boxes w (.slice (some ⟨b0, o0, none⟩) 4 c0) (.slice Ai a.ints.length ci) 30
    obtain ⟨b1, o1, c1, A2, c2, hu1, hd1, hd2, hu2, hR2⟩ := disks_cell (okBBB.grow hD hB) hsh hd hs
    unfold maxLen at hd2
    obtain ⟨x0, x1, x2, x3⟩ := hA.two
    obtain ⟨y0, y1, y2, y3⟩ := hR.two
    have HA2 := Lib.hid hA2
    have HB2 := Lib.hid hB2
    have hle : ((cellAt a.disks d s).length : Int) ≤ (n : Int) := by omega
    rw [rot_no (by right; right; simp only [Int.toNat_natCast]; exact hle)]
    clear hA2 hB2 hB0 h hD hI hA hR hB hsz hR2 hsh
    go_enter Try.func74, Try.ntmps74
    go_wp2
    exact bodyPost_ret (v := .tuple #[.agg #[.slice (some ⟨b0, o0, none⟩) 4 c0, .slice Ai a.ints.length ci], .int .i64 6]) (by simp [results, Try.results74, go_sem, *]) rfl ⟨_, rfl, HA2.out, HB2.out⟩
  rw [rot_yes hd hs hn]
  have hlen8 : (cellAt a.disks d s).length ≤ 8 := by obtain ⟨_, _, _, _, h8⟩ := hsh.cell hd hs; exact h8
  have HS := Lib.hid hsh
  have hturn := at8_turn hn
  have x0 := at8_lo (cellAt a.disks d s) n
  have x1 := at8_hi (cellAt a.disks d s) n
  obtain ⟨cl, hcl⟩ : ∃ cl, cellAt a.disks d s = cl := ⟨_, rfl⟩
  obtain ⟨hA, hR, hB, hsz⟩ := two_boxes w (.slice (some ⟨b0, o0, none⟩) 4 c0) (.slice Ai a.ints.length ci) 30
  obtain ⟨w1, hW⟩ : ∃ x, (w.alloc (.cells #[.slice (some ⟨b0, o0, none⟩) 4 c0, .slice Ai a.ints.length ci] 30)).alloc (.cells #[.slice none 0 0, .slice none 0 0] 30) = x := ⟨_, rfl⟩
  rw [hW] at hA hR hB hsz
  have hbe := below_alloc w1 (.cells #[] 5)
  have hB1 := hB.trans (hbe.mono hB.size)
  obtain ⟨b1, o1, c1, A2, c2, hu1, hd1, hd2, hu2, hR2⟩ := disks_cell (okBBB.grow hD hB) hsh hd hs
  replace hR2 := okB.grow hR2 hbe
  have hv1 := (hbe.cell (World.block_lt_of_cell? _ _ hu1)).trans hu1
  have hv2 := (hbe.cell (World.block_lt_of_cell? _ _ hu2)).trans hu2
  rw [hcl] at hu2 hv2 hR2 hn hlen8 hturn x0 x1 ⊢
  unfold maxLen at hd2
  have hE := Bld.empty R8 5 w1 (w.heap.size + 2) (fun _ => True) (by omega)
  have hS0 : RdB (w1.alloc (.cells #[] 5)) (fun k => some k ≠ (Value.slice (some ⟨w1.heap.size, 0, none⟩) 0 0).ownBlock ∧ True) (.slice A2 cl.length c2) cl := okB.mono hR2 fun k hk => ⟨by have := hk.2; simp only [Value.ownBlock, ne_eq, Option.some.injEq]; omega, trivial⟩
  obtain ⟨y0, y1, y2, y3⟩ := hA.two
  obtain ⟨z0, z1, z2, z3⟩ := (hA.grow hbe).two
  have HA := Lib.hid (hA.grow hbe)
  have HR := Lib.hid (hR.grow hbe)
  have HB := Lib.hid hB1
  have HSZ := Lib.hid hsz
  have HBE := Lib.hid hbe
  have HT := Lib.hid hturn
  have HCL := Lib.hid hcl
  clear h hA hR hB hbe hB1 hsz hR2 hturn hcl hsh y2 y3 z2 z3
  have hlo : decide (cl.length ≤ n) = false := by simp; omega
  go_enter Try.func74, Try.ntmps74
  go_wp2_with (at_builtin; refine wpList_append_bld (w1.alloc (.cells #[] 5)) rfl _ _ 23 (by rfl) ok8 slB (w.heap.size + 2) (fun _ => True) (.slice (some ⟨w1.heap.size, 0, none⟩) 0 0) _ [] cl (by rfl) (by rfl) hE hS0 ?c1 ?c2 ?c3)
  case c1 => simp; omega
  case c2 => have := HBE.out.size; have := HSZ.out; omega
  case c3 =>
  intro v3 w3 hv3 hb3 _ _
  replace hv3 : Bld R8 5 w3 (w.heap.size + 2) (fun _ => True) v3 cl := hv3
  obtain ⟨g, c4, rfl, hg0, hg1, hg2, hg3⟩ := hv3.form (by omega)
  unfold maxLen at hg3
  have hszE := HSZ.out
  have hB3 := HB.out.trans (hb3.mono (by omega))
  have hA3 := HA.out.keep hb3 (by omega)
  have hR3 := HR.out.keep hb3 (by omega)
  obtain ⟨u, hu, hfz, hRu⟩ := hv3.at_ hn
  cases hRu
  unfold B8 at hu
  rw [← at8_get hn] at hu
  have hsh2 : Shape (setA a.disks d s (cl.set n (cl.getD n 0 ^^^ 1))) := shape_set HS.out d s (by rw [List.length_set]; exact hlen8)
  clear hE hS0 y0 y1 hu1 hu2 hb3
  -- the byte, turned
  have key : ∀ (y : Int), y = ((cl.getD n 0 ^^^ 1).toNat : Int) → ∃ w4, w3.setCell ⟨g, n, none⟩ (.int .u8 y) = w4 ∧ BoxAt w4 w.heap.size 30 [.slice (some ⟨b0, o0, none⟩) 4 c0, .slice Ai a.ints.length ci] ∧ BoxAt w4 (w.heap.size + 1) 30 [.slice none 0 0, .slice none 0 0] ∧ Below w.heap.size w w4 ∧ w.heap.size + 2 ≤ w4.heap.size ∧ RdB w4 (fun k => F k ∧ k < w.heap.size ∨ w.heap.size + 2 ≤ k) (.slice (some ⟨g, 0, none⟩) cl.length c4) (cl.set n (cl.getD n 0 ^^^ 1)) := by
    intro y hy
    refine ⟨_, rfl, hA3.far (by omega), hR3.far (by omega), hB3.setCell (p := ⟨g, n, none⟩) (by show w.heap.size ≤ g; omega) _, by rw [setCell_size]; omega, ?_⟩
    have hset := (hv3.bytes (G' := fun _ => False)).set_ ok8 hn (u := .int .u8 y) (x := cl.getD n 0 ^^^ 1) (by rw [hy]; rfl)
    have := hset.toRd ok8 (F := fun k => F k ∧ k < w.heap.size ∨ w.heap.size + 2 ≤ k) (fun k hk => .inr hk) (fun _ hk => hk.elim)
    exact this
  have KEY := Lib.hid key
  clear key hv3 hA3 hR3 hB3
  have ht := HT.out
  by_cases he : at8 cl n % 2 = 0
  · rw [if_pos he] at ht
    obtain ⟨w4, hw4, hA4, hR4, hB4, hs4, hr4⟩ := KEY.out ((at8 cl n + 1) % 256) (by omega)
    have hm : (at8 cl n % 2 == 0) = true := by simpa using he
    obtain ⟨q0, q1, _, _⟩ := hA4.two
    have H4 := Lib.hid (And.intro hR4 (And.intro hB4 hs4))
    have HR4 := Lib.hid hr4
    have HD4 := Lib.hid (⟨_, _, rfl, okBBB.mono (okBBB.grow hD hB4) fun _ hk => .inl hk, okIs.mono (okIs.grow hI hB4) fun _ hk => .inl hk⟩ : RdA w4 (fun k => F k ∧ k < w.heap.size ∨ w.heap.size + 2 ≤ k) (.agg #[.slice (some ⟨b0, o0, none⟩) 4 c0, .slice Ai a.ints.length ci]) a)
    clear hA4 hR4 hB4 hs4 hr4 hD hI ht he
    go_wp2_with fail
    refine (ref_with a d s _ _ _ _ _ HD4.out HR4.out HS.out hd hs).mono ?_
    rintro e w5 ⟨v5, rfl, hr5, hb5⟩
    obtain ⟨b5, o5, c5, A5, c6, rfl, _, _, _, _⟩ := RdA_open hr5 hsh2
    have hR5 := H4.out.1.grow hb5
    obtain ⟨y0, y1, y2, y3⟩ := hR5.two
    have hr6 : RdA (set2 w5 (w.heap.size + 1) (.slice (some ⟨b5, o5, none⟩) 4 c5) (.slice A5 a.ints.length c6)) _ _ _ := hr5.set2 (b := w.heap.size + 1) fun k hk => by have := H4.out.2.2; rcases hk with (hk | hk) | hk <;> omega
    have hb6 := (H4.out.2.1.trans (hb5.mono H4.out.2.1.size)).trans (below_set2 (b := w.heap.size + 1) (v0 := .slice (some ⟨b5, o5, none⟩) 4 c5) (v1 := .slice A5 a.ints.length c6) (Nat.le_succ _))
    have H := Lib.hid (And.intro (hr6.mono (F' := fun k => F k ∨ w.heap.size ≤ k) fun k hk => by have := H4.out.2.2; rcases hk with (hk | hk) | hk; exact .inl hk.1; exact .inr (by omega); exact .inr (by omega)) hb6)
    clear hr6 hb6 hr5 hb5 hR5 q0 q1
    go_wp2_with fail
    exact bodyPost_ret (v := .tuple #[.agg #[.slice (some ⟨b5, o5, none⟩) 4 c5, .slice A5 a.ints.length c6], .int .i64 0]) (by simp [results, Try.results74, go_sem, *]) rfl ⟨_, rfl, H.out.1, H.out.2⟩
  · rw [if_neg he] at ht
    obtain ⟨w4, hw4, hA4, hR4, hB4, hs4, hr4⟩ := KEY.out ((at8 cl n - 1) % 256) (by omega)
    have hm : (at8 cl n % 2 == 0) = false := by simpa using he
    obtain ⟨q0, q1, _, _⟩ := hA4.two
    have H4 := Lib.hid (And.intro hR4 (And.intro hB4 hs4))
    have HR4 := Lib.hid hr4
    have HD4 := Lib.hid (⟨_, _, rfl, okBBB.mono (okBBB.grow hD hB4) fun _ hk => .inl hk, okIs.mono (okIs.grow hI hB4) fun _ hk => .inl hk⟩ : RdA w4 (fun k => F k ∧ k < w.heap.size ∨ w.heap.size + 2 ≤ k) (.agg #[.slice (some ⟨b0, o0, none⟩) 4 c0, .slice Ai a.ints.length ci]) a)
    clear hA4 hR4 hB4 hs4 hr4 hD hI ht he
    go_wp2_with fail
    refine (ref_with a d s _ _ _ _ _ HD4.out HR4.out HS.out hd hs).mono ?_
    rintro e w5 ⟨v5, rfl, hr5, hb5⟩
    obtain ⟨b5, o5, c5, A5, c6, rfl, _, _, _, _⟩ := RdA_open hr5 hsh2
    have hR5 := H4.out.1.grow hb5
    obtain ⟨y0, y1, y2, y3⟩ := hR5.two
    have hr6 : RdA (set2 w5 (w.heap.size + 1) (.slice (some ⟨b5, o5, none⟩) 4 c5) (.slice A5 a.ints.length c6)) _ _ _ := hr5.set2 (b := w.heap.size + 1) fun k hk => by have := H4.out.2.2; rcases hk with (hk | hk) | hk <;> omega
    have hb6 := (H4.out.2.1.trans (hb5.mono H4.out.2.1.size)).trans (below_set2 (b := w.heap.size + 1) (v0 := .slice (some ⟨b5, o5, none⟩) 4 c5) (v1 := .slice A5 a.ints.length c6) (Nat.le_succ _))
    have H := Lib.hid (And.intro (hr6.mono (F' := fun k => F k ∨ w.heap.size ≤ k) fun k hk => by have := H4.out.2.2; rcases hk with (hk | hk) | hk; exact .inl hk.1; exact .inr (by omega); exact .inr (by omega)) hb6)
    clear hr6 hb6 hr5 hb5 hR5 q0 q1
    go_wp2_with fail
    exact bodyPost_ret (v := .tuple #[.agg #[.slice (some ⟨b5, o5, none⟩) 4 c5, .slice A5 a.ints.length c6], .int .i64 0]) (by simp [results, Try.results74, go_sem, *]) rfl ⟨_, rfl, H.out.1, H.out.2⟩
end Go.Proofs.Ytoendmbgfbhidaa

namespace Go.Proofs.Ytoendmbgfbhidaa
set_option linter.unusedVariables false
open Go Go.RowKit M
def rowN (d k : Nat) : List Bs := (List.range k).map fun s => cellB d s zero4
theorem rowN_next (d k : Nat) : rowN d k ++ [cellB d k zero4] = rowN d (k + 1) := by unfold rowN; rw [List.range_succ]; simp
theorem rowN_len (d k : Nat) : (rowN d k).length = k := by simp [rowN]
def disksN (k : Nat) : List (List Bs) := (List.range k).map fun d => rowN d 3
theorem disksN_next (k : Nat) : disksN k ++ [rowN k 3] = disksN (k + 1) := by unfold disksN; rw [List.range_succ]; simp
theorem disksN_len (k : Nat) : (disksN k).length = k := by simp [disksN]
theorem disksN_all : disksN 4 = newD := rfl
set_option maxRecDepth 100000 in
set_option maxHeartbeats 1600000 in
theorem ref_New (w : World) : Calls Try.prog 16 #[] w fun e w' => ∃ v', e = .returned v' ∧ RdA w' (fun k => w.heap.size ≤ k) v' newA ∧ Below w.heap.size w w' := by
  obtain ⟨hR, hA, hB, hsz⟩ := two_boxes w (.slice none 0 0) (.slice none 0 0) 30
  have HSZ := Lib.hid hsz
  clear hsz
  go_enter Try.func16, Try.ntmps16
  go_wp2_with fail
  generalize (w.alloc (.cells #[.slice none 0 0, .slice none 0 0] 30)).alloc (.cells #[.slice none 0 0, .slice none 0 0] 30) = w1 at *
  go_loopw [6] (fun i wr => ∃ k : Nat, k ≤ 4 ∧ i = .int .i64 k ∧ (∃ dv, BoxAt wr (w.heap.size + 1) 30 [dv, .slice none 0 0] ∧ Bld RdBB 41 wr (w.heap.size + 2) (fun k => w.heap.size + 2 ≤ k) dv (disksN k)) ∧ BoxAt wr w.heap.size 30 [.slice none 0 0, .slice none 0 0] ∧ Below w.heap.size w wr ∧ w.heap.size + 2 ≤ wr.heap.size) (fun i _ => 4 - (intOf i).toNat)
  case atStart => exact ⟨0, Nat.zero_le _, rfl, ⟨_, hA, Bld.nil_ _ _ _ _ _⟩, hR, hB, by rw [HSZ.out]; exact Nat.le_refl _⟩
  case round =>
    obtain ⟨k, hk, rfl, ⟨dv, hA1, hD1⟩, hR1, hB1, hs1⟩ := hrel
    rename World => wo
    by_cases hlt : k < 4
    · have hbk : decide ((k : Int) < 4) = true := by simp; omega
      have H1 := Lib.hid (And.intro hA1 (And.intro hD1 (And.intro hR1 (And.intro hB1 hs1))))
      clear hA1 hD1 hR1 hB1 hs1
      go_wp2_with fail
      go_loopw [3, 9] (fun u i wi => ∃ j : Nat, j ≤ 3 ∧ i = .int .i64 j ∧ Bld RdB 23 wi wo.heap.size (fun k => wo.heap.size ≤ k) u (rowN k j) ∧ Below wo.heap.size wo wi) (fun _ i _ => 3 - (intOf i).toNat)
      case atStart => exact ⟨0, Nat.zero_le _, rfl, Bld.nil_ _ _ _ _ _, Below.refl _ _⟩
      case round =>
        obtain ⟨j, hj, rfl, hO, hlw⟩ := hrel
        have HLW := Lib.hid hlw
        by_cases hjt : j < 3
        · have HT := Lib.hid (show ((rowN k j).length + 1) * 24 ≤ 140737488355328 by rw [rowN_len]; omega)
          have HX := Lib.hid (rowN_next k j)
          have HO := Lib.hid hO
          have hz := rd_const wr zero4 5 (0, 0) (by decide)
          have hbz := below_alloc wr (.cells #[.int .u8 0, .int .u8 0, .int .u8 0, .int .u8 0] 5)
          have HZ := Lib.hid (And.intro hz hbz)
          clear hO hlw hz hbz
          go_wp2_with fail
          refine (ref_CellBytes k j zero4 _ _ _ HZ.out.1 (by omega) (by omega) (by decide)).mono ?_
          rintro e w2 ⟨v2, rfl, hv2, hb2⟩
          have hbz := HZ.out.2
          have hb2' := hbz.trans (hb2.mono hbz.size)
          have hr2 := (hv2.bytes (G' := fun k => wr.heap.size ≤ k)).toRd ok8 (F := fun k => wr.heap.size ≤ k) (fun _ hk => Nat.le_trans hbz.size hk) (fun _ hk => hk)
          obtain ⟨A3, c3, rfl, _, _⟩ := hr2.shape
          have HR2 := Lib.hid hr2
          have HB2 := Lib.hid hb2'
          clear hv2 hr2 hb2 hbz hb2'
          go_wp2_with (at_builtin; refine wpList_append_oneG rfl _ _ 41 rfl okB slBB wo.heap.size (fun k => wo.heap.size ≤ k) _ _ (cellB k j zero4) _ rfl (by rfl) (by rfl) (HO.out.grow okB HB2.out) (okB.mono HR2.out fun k hk => ⟨fun e => by have := (HO.out.blk k e.symm).2; omega, Nat.le_trans HLW.out.size hk⟩) (fun _ hk => hk) HT.out (Nat.le_trans HLW.out.size HB2.out.size) ?c1)
          case c1 =>
          intro v' w' hB' hb
          rw [HX.out] at hB'
          go_wp2
          go_roundw
          case rel => exact ⟨j + 1, by omega, by go_num, hB', HLW.out.trans ((HB2.out.mono HLW.out.size).trans hb)⟩
          case measure => simp [intOf]; omega
        · obtain rfl : j = 3 := by omega
          obtain ⟨hA1, hD1, hR1, hB1, hs1⟩ := H1.out
          have hA2 := hA1.grow hlw
          obtain ⟨x0, x1, x2, x3⟩ := hA2.two
          have hrow := hO.toRd okB (F := fun k => wo.heap.size ≤ k) (fun k hk => hk) (fun _ hk => hk)
          obtain ⟨A3, c3, rfl, _, _⟩ := hrow.shape
          have HRow := Lib.hid hrow
          have HD := Lib.hid (hD1.grow okBB hlw)
          have HT := Lib.hid (show ((disksN k).length + 1) * 24 ≤ 140737488355328 by rw [disksN_len]; omega)
          have HX := Lib.hid (disksN_next k)
          have hsw := hlw.size
          have HDB := Lib.hid hD1.blk
          have HA2 := Lib.hid hA2
          have HB2 := Lib.hid (hB1.trans (hlw.mono hB1.size))
          have HR2 := Lib.hid (hR1.grow hlw)
          clear hA1 hD1 hR1 hB1 hA2 hrow hO hlw
          go_wp2_with (at_builtin; refine wpList_append_oneG rfl _ _ 27 rfl okBB slBBB (w.heap.size + 2) (fun k => w.heap.size + 2 ≤ k) _ _ (rowN k 3) _ rfl (by rfl) (by rfl) HD.out (okBB.mono HRow.out fun k hk => ⟨fun e => by have := (HDB.out k e.symm).2; omega, by omega⟩) (fun _ hk => hk) HT.out (by omega) ?c1)
          case c1 =>
          intro v' w' hB' hb
          rw [HX.out] at hB'
          have hbs := hb.size
          have hA3 := HA2.out.keep hb (by omega)
          have hR3 := HR2.out.keep hb (by omega)
          obtain ⟨y0, y1, y2, y3⟩ := hA3.two
          have hB3 := hB'.toRd okBB (F := fun k => w.heap.size + 2 ≤ k) (fun k hk => hk) (fun _ hk => hk)
          obtain ⟨A4, c4, rfl, _, _⟩ := hB3.shape
          have hA5 := hA3.set_ 0 (.slice A4 (disksN (k + 1)).length c4)
          have hR5 := hR3.far (b' := w.heap.size + 1) (j := 0) (v := .slice A4 (disksN (k + 1)).length c4) (by omega)
          have hD5 := hB'.setc okBB (b := w.heap.size + 1) (j := 0) (v := .slice A4 (disksN (k + 1)).length c4) (fun k hk => by have := (hB'.blk k hk).1; omega) (fun k hk _ => by omega)
          have hB5 := (HB2.out.trans (hb.mono (by omega))).setCell (p := ⟨w.heap.size + 1, 0, none⟩) (by show w.heap.size ≤ w.heap.size + 1; omega) (.slice A4 (disksN (k + 1)).length c4)
          have hs5 : w.heap.size + 2 ≤ (w'.setCell ⟨w.heap.size + 1, 0, none⟩ (.slice A4 (disksN (k + 1)).length c4)).heap.size := by rw [setCell_size]; omega
          have H := Lib.hid (And.intro hA5 (And.intro hD5 (And.intro hR5 (And.intro hB5 hs5))))
          clear hA3 hR3 hB3 hA5 hR5 hD5 hB5 hs5 hB' x0 x1 x2 x3
          go_wp2
          go_roundw
          case rel => exact ⟨k + 1, by omega, by go_num, ⟨_, H.out.1, H.out.2.1⟩, H.out.2.2.1, H.out.2.2.2.1, H.out.2.2.2.2⟩
          case measure => simp [intOf]; omega
    · obtain rfl : k = 4 := by omega
      have hD2 := hD1.toRd okBB (F := fun k => w.heap.size + 2 ≤ k) (fun k hk => hk) (fun _ hk => hk)
      obtain ⟨A4, c4, rfl, _, _⟩ := hD2.shape
      obtain ⟨x0, x1, x2, x3⟩ := hA1.two
      obtain ⟨y0, y1, y2, y3⟩ := hR1.two
      have hr : RdA wo (fun k => w.heap.size + 2 ≤ k) (.agg #[.slice A4 (disksN 4).length c4, .slice none 0 0]) newA := ⟨_, _, rfl, hD2, RdIs.nil_ _ _ _ _ (by decide)⟩
      have hr3 : RdA (set2 wo w.heap.size (.slice A4 (disksN 4).length c4) (.slice none 0 0)) _ _ _ := hr.set2 (b := w.heap.size) fun k hk => by omega
      have hb3 := hB1.trans (below_set2 (b := w.heap.size) (v0 := .slice A4 (disksN 4).length c4) (v1 := .slice none 0 0) (Nat.le_refl _))
      have H := Lib.hid (And.intro (hr3.mono (F' := fun k => w.heap.size ≤ k) fun k hk => by omega) hb3)
      clear hr hr3 hb3 hD2 hD1 hA1 hR1 hB1
      go_wp2_with fail
      exact bodyPost_ret (v := .agg #[.slice A4 (disksN 4).length c4, .slice none 0 0]) (by simp [results, Try.results16, go_sem, *]) rfl ⟨_, rfl, H.out.1, H.out.2⟩
end Go.Proofs.Ytoendmbgfbhidaa

namespace Go.Proofs.Ytoendmbgfbhidaa
set_option linter.unusedVariables false
open Go Go.RowKit M
/-- So many writes of an intent. -/
def wrTo (a : Arr) (i : Int × List Bs) (m : Nat) : Arr := ⟨putTo a.disks i.1.toNat i.2 (min (m - 1) 4), if 5 < m then [] else if 0 < m then [i] else a.ints⟩
theorem wrTo_zero (a : Arr) (i : Int × List Bs) : wrTo a i 0 = a := rfl
theorem wrTo_one (a : Arr) (i : Int × List Bs) : wrTo a i 1 = ⟨a.disks, [i]⟩ := rfl
theorem wrTo_six (a : Arr) (i : Int × List Bs) : wrTo a i 6 = ⟨(wrTo a i 5).disks, []⟩ := rfl
theorem wrTo_cell (a : Arr) (i : Int × List Bs) {m : Nat} (h1 : 1 ≤ m) (h4 : m ≤ 4) : wrTo a i (m + 1) = ⟨setA (wrTo a i m).disks (m - 1) i.1.toNat (i.2.getD (m - 1) []), (wrTo a i m).ints⟩ := by
  have e1 : ¬ 5 < m + 1 := by omega
  have e2 : ¬ 5 < m := by omega
  have e3 : 0 < m + 1 := by omega
  have e4 : 0 < m := by omega
  unfold wrTo
  rw [show min (m + 1 - 1) 4 = (m - 1) + 1 by omega, show min (m - 1) 4 = m - 1 by omega, putTo_next, if_neg e1, if_neg e2, if_pos e3, if_pos e4]
theorem wrTo_all (a : Arr) (i : Int × List Bs) (n : Int) {m : Nat} (h : (m : Int) = min (max n 0) 6) : wrTo a i m = writeR a i n := by
  unfold wrTo writeR writeK cellsR
  rw [show min (m - 1) 4 = (min (max (n - 1) 0) 4).toNat by omega]
  by_cases h5 : 5 < n
  · rw [if_pos (by omega), if_pos h5]
  · rw [if_neg (by omega), if_neg h5]
    by_cases h0 : 0 < n
    · rw [if_pos (by omega), if_pos h0]
    · rw [if_neg (by omega), if_neg h0]
theorem wrTo_shape {a : Arr} (h : Shape a.disks) {i : Int × List Bs} (hl : ∀ c ∈ i.2, c.length ≤ 8) (m : Nat) : Shape (wrTo a i m).disks := putTo_shape h _ hl _
/-- An intent. -/
def RdI : Rel (Int × List Bs) := fun w F v i => ∃ cv, v = .agg #[.int .i64 i.1, cv] ∧ RdBB w F cv i.2
/-- Three boxes. -/
theorem three_boxes (w : World) (v0 v1 i0 i1 : Value) (T T' : TypeId) : ∃ w1, (((w.alloc (.cells #[v0, v1] T)).alloc (.cells #[i0, i1] T')).alloc (.cells #[.slice none 0 0, .slice none 0 0] T)) = w1 ∧ BoxAt w1 w.heap.size T [v0, v1] ∧ BoxAt w1 (w.heap.size + 1) T' [i0, i1] ∧ BoxAt w1 (w.heap.size + 1 + 1) T [.slice none 0 0, .slice none 0 0] ∧ Below w.heap.size w w1 ∧ w1.heap.size = w.heap.size + 3 := by
  have h0 := boxAt_new w T [v0, v1]
  have h1 := below_alloc w (.cells #[v0, v1] T)
  have h2 := boxAt_new (w.alloc (.cells #[v0, v1] T)) T' [i0, i1]
  have h3 := below_alloc (w.alloc (.cells #[v0, v1] T)) (.cells #[i0, i1] T')
  have h4 := boxAt_new ((w.alloc (.cells #[v0, v1] T)).alloc (.cells #[i0, i1] T')) T [.slice none 0 0, .slice none 0 0]
  have h5 := below_alloc ((w.alloc (.cells #[v0, v1] T)).alloc (.cells #[i0, i1] T')) (.cells #[.slice none 0 0, .slice none 0 0] T)
  rw [alloc_size] at h2
  rw [alloc_size, alloc_size] at h4
  refine ⟨_, rfl, (h0.grow h3).grow h5, h2.grow h5, h4, (h1.trans (h3.mono h1.size)).trans (h5.mono (Nat.le_trans h1.size h3.size)), by rw [alloc_size, alloc_size, alloc_size]⟩
theorem RdA.parts {w : World} {F : Fp} {dv iv : Value} {a : Arr} (h : RdA w F (.agg #[dv, iv]) a) : RdBBB w F dv a.disks ∧ RdIs w F iv a.ints := by
  obtain ⟨dv', iv', hag, h1, h2⟩ := h
  injection hag with hag
  simp only [Array.mk.injEq, List.cons.injEq, and_true] at hag
  obtain ⟨rfl, rfl⟩ := hag
  exact ⟨h1, h2⟩
theorem wrap_nat {j : Nat} (h : j < 9223372036854775808) : IntKind.i64.wrap ((j : Nat) : Int) = (j : Int) := by
  rw [IntKind.wrap_i64]
  omega
def Ra (F : Fp) (a : Arr) : Know := fun w v => RdA w F v a
theorem mRa (F : Fp) (a : Arr) : Mono (Ra F a) := fun _ _ _ hb h => h.grow hb
set_option maxRecDepth 100000 in
set_option maxHeartbeats 1600000 in
theorem ref_Write (a : Arr) (i : Int × List Bs) (n : Int) (v vi : Value) (F : Fp) (w : World) (h : RdA w F v a) (hi : RdI w F vi i) (hsh : Shape a.disks) (hi3 : i.1 = ((i.1.toNat : Nat) : Int)) (his : i.1.toNat < 3) (hil : i.2.length = 4) (hic : ∀ c ∈ i.2, c.length ≤ 8) :
    Calls Try.prog 28 #[v, vi, .int .i64 n] w fun e w' => ∃ v', e = .returned v' ∧ RdA w' (fun k => F k ∨ w.heap.size ≤ k) v' (writeR a i n) ∧ Below w.heap.size w w' := by
  obtain ⟨b0, o0, c0, Ai, ci, rfl, hD, hI, hc0, hc1⟩ := RdA_open h hsh
  obtain ⟨cv, rfl, hC⟩ := hi
  replace hC := okBB.lt hC
  obtain ⟨bc, oc, cc, rfl, hFbc, _, hcc, hcm⟩ := hC.form (by rw [hil]; decide)
  rw [hil] at hC hcc ⊢
  unfold maxLen at hcm
  obtain ⟨s, hs⟩ : ∃ s : Nat, i.1.toNat = s := ⟨_, rfl⟩
  rw [hs] at hi3 his
  rw [hi3]
  obtain ⟨w1, hW, hA, hX, hR, hB, hsz⟩ := three_boxes w (.slice (some ⟨b0, o0, none⟩) 4 c0) (.slice Ai a.ints.length ci) (.int .i64 (s : Int)) (.slice (some ⟨bc, oc, none⟩) 4 cc) 30 46
  have hA1 : RdA w1 (fun k => F k ∧ k < w.heap.size ∨ w.heap.size + 3 ≤ k) (.agg #[.slice (some ⟨b0, o0, none⟩) 4 c0, .slice Ai a.ints.length ci]) a := ⟨_, _, rfl, okBBB.mono (okBBB.grow hD hB) fun _ hk => .inl hk, okIs.mono (okIs.grow hI hB) fun _ hk => .inl hk⟩
  have HSZ := Lib.hid hsz
  have HS := Lib.hid hsh
  have HIC := Lib.hid hic
  have HI1 := Lib.hid hs
  have HI3 := Lib.hid hi3
  have HIL := Lib.hid hil
  clear hsz hD hI h hsh hic hs hi3 hil
  go_enter Try.func28, Try.ntmps28
  go_wp2_with fail
  try rw [hW]
  clear hW
  go_loopw [7] (fun u wr => ∃ m : Nat, m ≤ 6 ∧ u = .int .i64 ((m : Int) + 1) ∧ (m : Int) ≤ max n 0 ∧ (∃ dv iv, BoxAt wr w.heap.size 30 [dv, iv] ∧ RdA wr (fun k => F k ∧ k < w.heap.size ∨ w.heap.size + 3 ≤ k) (.agg #[dv, iv]) (wrTo a i m)) ∧ BoxAt wr (w.heap.size + 1) 46 [.int .i64 (s : Int), .slice (some ⟨bc, oc, none⟩) 4 cc] ∧ BoxAt wr (w.heap.size + 1 + 1) 30 [.slice none 0 0, .slice none 0 0] ∧ Below w.heap.size w wr ∧ w.heap.size + 3 ≤ wr.heap.size) (fun u _ => 7 - (intOf u).toNat)
  case atStart => exact ⟨0, Nat.zero_le _, rfl, by omega, ⟨_, _, hA, by rw [wrTo_zero]; exact hA1⟩, hX, hR, hB, by rw [HSZ.out]; exact Nat.le_refl _⟩
  case round =>
    obtain ⟨m, hm, rfl, hmn, ⟨dv, iv, hA2, hR2⟩, hX2, hZ2, hB2, hs2⟩ := hrel
    have hskm := wrTo_shape HS.out HIC.out m
    obtain ⟨b1, o1, c1, A1, c2, hag, _, _, hc11, hc12⟩ := RdA_open hR2 hskm
    injection hag with hag
    simp only [Array.mk.injEq, List.cons.injEq, and_true] at hag
    obtain ⟨rfl, rfl⟩ := hag
    obtain ⟨x0, x1, x2, x3⟩ := hA2.two
    obtain ⟨y0, y1, y2, y3⟩ := hX2.two
    by_cases hgo : (m : Int) + 1 ≤ n ∧ m < 6
    rotate_left
    · obtain ⟨z0, z1, z2, z3⟩ := hZ2.two
      have hr3 : RdA (set2 wr (w.heap.size + 1 + 1) (.slice (some ⟨b1, o1, none⟩) 4 c1) (.slice A1 (wrTo a i m).ints.length c2)) _ _ _ := hR2.set2 (b := w.heap.size + 1 + 1) fun k hk => by omega
      have hb3 := hB2.trans (below_set2 (b := w.heap.size + 1 + 1) (v0 := .slice (some ⟨b1, o1, none⟩) 4 c1) (v1 := .slice A1 (wrTo a i m).ints.length c2) (by omega))
      have hall := wrTo_all a i n (m := m) (by omega)
      have hr4 : RdA (set2 wr (w.heap.size + 1 + 1) (.slice (some ⟨b1, o1, none⟩) 4 c1) (.slice A1 (wrTo a i m).ints.length c2)) (fun k => F k ∨ w.heap.size ≤ k) (.agg #[.slice (some ⟨b1, o1, none⟩) 4 c1, .slice A1 (wrTo a i m).ints.length c2]) (writeR a i n) := by
        rw [← hall]
        exact hr3.mono fun k hk => hk.elim (fun h => .inl h.1) fun h => .inr (by omega)
      have H := Lib.hid (And.intro hr4 hb3)
      clear hall hr4 hr3 hb3 hR2 hA2 hX2 hZ2 hB2 hA hA1 hX hR hB hskm
      by_cases h1 : (m : Int) + 1 ≤ n
      · have d1 : decide ((m : Int) + 1 ≤ n) = true := by simpa using h1
        have d2 : decide ((m : Int) + 1 ≤ 6) = false := by simp; omega
        go_wp2_with fail
        exact bodyPost_ret (v := .agg #[.slice (some ⟨b1, o1, none⟩) 4 c1, .slice A1 (wrTo a i m).ints.length c2]) (by simp [results, Try.results28, go_sem, *]) rfl ⟨_, rfl, H.out.1, H.out.2⟩
      · have d1 : decide ((m : Int) + 1 ≤ n) = false := by simpa using h1
        go_wp2_with fail
        exact bodyPost_ret (v := .agg #[.slice (some ⟨b1, o1, none⟩) 4 c1, .slice A1 (wrTo a i m).ints.length c2]) (by simp [results, Try.results28, go_sem, *]) rfl ⟨_, rfl, H.out.1, H.out.2⟩
    obtain ⟨hg1, hg2⟩ := hgo
    have d1 : decide ((m : Int) + 1 ≤ n) = true := by simpa using hg1
    have d2 : decide ((m : Int) + 1 ≤ 6) = true := by simp; omega
    obtain ⟨hdd, hii⟩ := RdA.parts hR2
    have hCr := okBB.grow hC hB2
    by_cases hm0 : m = 0
    · subst hm0
      have hAl := hA2.alloc (.cells #[.int .i64 (s : Int), .slice (some ⟨bc, oc, none⟩) 4 cc] 46)
      have hal := below_alloc wr (.cells #[.int .i64 (s : Int), .slice (some ⟨bc, oc, none⟩) 4 cc] 46)
      obtain ⟨p0, p1, p2, p3⟩ := hAl.two
      have hone := RdIs.one_ (F := fun k => F k ∧ k < w.heap.size ∨ w.heap.size + 3 ≤ k) (s := (s : Int)) (okBB.mono hCr fun _ hk => .inl hk) 46 (.inr hs2)
      have hset := hAl.set_ 1 (.slice (some ⟨wr.heap.size, 0, none⟩) 1 1)
      have hone2 := okIs.setc hone (b := w.heap.size) (j := 1) (v := .slice (some ⟨wr.heap.size, 0, none⟩) 1 1) (fun k hk => by omega)
      have hdd2 := okBBB.setc (okBBB.grow hdd hal) (b := w.heap.size) (j := 1) (v := .slice (some ⟨wr.heap.size, 0, none⟩) 1 1) (fun k hk => by omega)
      have hX3 := (hX2.alloc (.cells #[.int .i64 (s : Int), .slice (some ⟨bc, oc, none⟩) 4 cc] 46)).far (b' := w.heap.size) (j := 1) (v := .slice (some ⟨wr.heap.size, 0, none⟩) 1 1) (by omega)
      have hZ3 := (hZ2.alloc (.cells #[.int .i64 (s : Int), .slice (some ⟨bc, oc, none⟩) 4 cc] 46)).far (b' := w.heap.size) (j := 1) (v := .slice (some ⟨wr.heap.size, 0, none⟩) 1 1) (by omega)
      have hB3 := (hB2.trans (hal.mono hB2.size)).setCell (p := ⟨w.heap.size, 1, none⟩) (Nat.le_refl _) (.slice (some ⟨wr.heap.size, 0, none⟩) 1 1)
      have hs3 : w.heap.size + 3 ≤ ((wr.alloc (.cells #[.int .i64 (s : Int), .slice (some ⟨bc, oc, none⟩) 4 cc] 46)).setCell ⟨w.heap.size, 1, none⟩ (.slice (some ⟨wr.heap.size, 0, none⟩) 1 1)).heap.size := by rw [setCell_size, alloc_size]; omega
      have H := Lib.hid (And.intro hset (And.intro hdd2 (And.intro hone2 (And.intro hX3 (And.intro hZ3 (And.intro hB3 hs3))))))
      clear hAl hset hdd2 hone2 hX3 hZ3 hB3 hs3 hone hdd hii hA2 hX2 hZ2 hB2 hR2 hA hA1 hX hR hB hskm x0 x1 x2 x3
      go_wp2_with fail
      go_roundw
      case rel =>
        refine ⟨1, by omega, by go_num, by omega, ⟨_, _, H.out.1, _, _, rfl, H.out.2.1, ?_⟩, H.out.2.2.2.1, H.out.2.2.2.2.1, H.out.2.2.2.2.2.1, H.out.2.2.2.2.2.2⟩
        have e : [i] = [((s : Int), i.2)] := by rw [← HI3.out]
        show RdIs _ _ _ [i]
        rw [e]
        exact H.out.2.2.1
      case measure => simp [intOf]
    by_cases hm5 : m = 5
    · subst hm5
      have hset := hA2.set_ 1 (.slice none 0 0)
      have hdd2 := okBBB.setc hdd (b := w.heap.size) (j := 1) (v := .slice none 0 0) (fun k hk => by omega)
      have hX3 := hX2.far (b' := w.heap.size) (j := 1) (v := .slice none 0 0) (by omega)
      have hZ3 := hZ2.far (b' := w.heap.size) (j := 1) (v := .slice none 0 0) (by omega)
      have hB3 := hB2.setCell (p := ⟨w.heap.size, 1, none⟩) (Nat.le_refl _) (.slice none 0 0)
      have hs3 : w.heap.size + 3 ≤ (wr.setCell ⟨w.heap.size, 1, none⟩ (.slice none 0 0)).heap.size := by rw [setCell_size]; omega
      have H := Lib.hid (And.intro hset (And.intro hdd2 (And.intro hX3 (And.intro hZ3 (And.intro hB3 hs3)))))
      clear hset hdd2 hX3 hZ3 hB3 hs3 hdd hii hA2 hX2 hZ2 hB2 hR2 hA hA1 hX hR hB hskm
      go_wp2_with fail
      go_roundw
      case rel =>
        refine ⟨6, by omega, by go_num, by omega, ⟨_, _, H.out.1, _, _, rfl, H.out.2.1, RdIs.nil_ _ _ _ _ (by decide)⟩, H.out.2.2.1, H.out.2.2.2.1, H.out.2.2.2.2.1, H.out.2.2.2.2.2⟩
      case measure => simp [intOf]
    obtain ⟨j, rfl⟩ : ∃ j, m = j + 1 := ⟨m - 1, by omega⟩
    have hj4 : j < 4 := by omega
    have ej : ((j + 1 : Nat) : Int) + 1 = (j : Int) + 2 := by omega
    rw [ej] at d1 d2 hg1 ⊢
    have d3 : decide ((j : Int) + 2 < 6) = true := by simp; omega
    have d4 : ((j : Int) + 2 == 1) = false := by simp; omega
    have HN := Lib.hid (wrTo_cell a i (m := j + 1) (by omega) (by omega))
    have hjl : j < i.2.length := by rw [HIL.out]; exact hj4
    obtain ⟨u, hu, hRu⟩ := RdL_q hCr (k := j) (x := i.2[j]) (List.getElem?_eq_getElem hjl)
    obtain ⟨Ax, cx, rfl, _, _⟩ := hRu.shape
    have HX := Lib.hid (show i.2.getD j [] = i.2[j] by simp [List.getD, List.getElem?_eq_getElem hjl])
    have HRu := Lib.hid hRu
    have hbase : w.heap.size ≤ wr.heap.size := by omega
    have H := Lib.hid (And.intro hA2 (And.intro hR2 (And.intro hX2 (And.intro hZ2 (And.intro hB2 hs2)))))
    have HSK := Lib.hid hskm
    clear hm0 hm5 ej hRu hCr hC hdd hii hA2 hX2 hZ2 hB2 hR2 hA hA1 hX hR hB hskm hs2 x0 x1 x2 x3 y0 y1 y2 y3
    generalize wrTo a i (j + 1) = a1 at *
    go_wp2_with fail
    refine region_three (w.heap.size) [Ck (.agg #[.slice (some ⟨b1, o1, none⟩) 4 c1, .slice A1 a1.ints.length c2]), Ck (.int .i64 ((j : Int) + 2)), Ck (.int .i64 j), Ck (.pointer (some ⟨w.heap.size + 1, 0, none⟩)), Ck (.int .i64 s), Ck (.pointer (some ⟨w.heap.size + 1, 1, none⟩)), Ck (.slice (some ⟨bc, oc, none⟩) 4 cc), Ck (.int .i64 ((j : Int) + 2)), Ck (.int .i64 j), Ck (.pointer (some ⟨bc, oc + j, none⟩)), Ck (.slice Ax i.2[j].length cx), Ek 0 (Ra (fun k => F k ∧ k < w.heap.size ∨ w.heap.size + 3 ≤ k) (wrTo a i (j + 1 + 1))), Tk] (fun q wx => (q = 0 → BoxAt wx w.heap.size 30 [.slice (some ⟨b1, o1, none⟩) 4 c1, .slice A1 a1.ints.length c2] ∧ RdA wx (fun k => F k ∧ k < w.heap.size ∨ w.heap.size + 3 ≤ k) (.agg #[.slice (some ⟨b1, o1, none⟩) 4 c1, .slice A1 a1.ints.length c2]) a1) ∧ (q = 1 → ∃ dv iv, BoxAt wx w.heap.size 30 [dv, iv] ∧ RdA wx (fun k => F k ∧ k < w.heap.size ∨ w.heap.size + 3 ≤ k) (.agg #[dv, iv]) (wrTo a i (j + 1 + 1))) ∧ BoxAt wx (w.heap.size + 1) 46 [.int .i64 (s : Int), .slice (some ⟨bc, oc, none⟩) 4 cc] ∧ BoxAt wx (w.heap.size + 1 + 1) 30 [.slice none 0 0, .slice none 0 0] ∧ w.heap.size + 3 ≤ wx.heap.size) [12] (by kernel_rfl) (by kernel_rfl) (by kernel_rfl) (by kernel_rfl) (by kernel_rfl) ?_ ?_ (fun q w w' hb h => ⟨fun e => ⟨(h.1 e).1.grow hb, (h.1 e).2.grow hb⟩, fun e => (h.2.1 e).imp fun dv hv => hv.imp fun iv hv => ⟨hv.1.grow hb, hv.2.grow hb⟩, h.2.2.1.grow hb, h.2.2.2.1.grow hb, Nat.le_trans h.2.2.2.2 hb.size⟩) (⟨fun _ => ⟨H.out.1, H.out.2.1⟩, fun h => absurd h (by decide), H.out.2.2.1, H.out.2.2.2.1, H.out.2.2.2.2.2⟩) ?_ ?_
    · first | exact Nat.le_refl _ | assumption | omega
    · repeat (first | exact trivial | refine ⟨mCk _, ?_⟩ | refine ⟨mTk, ?_⟩ | refine ⟨mEk _ (by first | exact mC _ | exact mT | exact mR okB _ | exact mR okBB _ | exact mR okBBB _ | exact mRn okB _ _ | exact mRn okBB _ _ | exact mOw _ _ _ _ | exact mRm okB _ _ _ | exact mRa _ _ | exact mRg okROW _ _ | exact mRg okROWS _ _ | exact mRf okDISKS _ _ | exact mRg okCELL _ _ | exact mRg okBB _ _ | exact mRg okB _ _ | exact mRg okIs _ _ | exact mRi _ _), ?_⟩ | refine ⟨mFk _ (by first | exact mC _ | exact mT | exact mR okB _ | exact mR okBB _ | exact mR okBBB _ | exact mRn okB _ _ | exact mRn okBB _ _ | exact mOw _ _ _ _ | exact mRm okB _ _ _ | exact mRa _ _ | exact mRg okROW _ _ | exact mRg okROWS _ _ | exact mRf okDISKS _ _ | exact mRg okCELL _ _ | exact mRg okBB _ _ | exact mRg okB _ _ | exact mRg okIs _ _ | exact mRi _ _), ?_⟩ | refine ⟨fun _ => (by first | exact mC _ | exact mT | exact mR okB _ | exact mR okBB _ | exact mR okBBB _ | exact mRn okB _ _ | exact mRn okBB _ _ | exact mOw _ _ _ _ | exact mRm okB _ _ _ | exact mRa _ _ | exact mRg okROW _ _ | exact mRg okROWS _ _ | exact mRf okDISKS _ _ | exact mRg okCELL _ _ | exact mRg okBB _ _ | exact mRg okB _ _ | exact mRg okIs _ _ | exact mRi _ _), ?_⟩)
    · simp only [StepsL3]
      refine ⟨?_, ?_, ?_, ?_, ?_, ?_, ?_, ?_, ?_, ?_, ?_, ?_, ?_, trivial⟩
      · refine @id (StepG _ _ _ _ _ _ _ _ _ _ _) ?_
        intro nst ys wx hn hmay hw hS hd
        obtain rfl : nst = 0 := may_one hmay hn (by kernel_rfl)
        intro K hK
        simp only [putL, Act.put, List.setIfInBounds_toArray, List.set_cons_zero, List.set_cons_succ, Nat.zero_add, Nat.reduceAdd] at hK ⊢
        rw [if_pos (by rfl)]
        obtain ⟨x0, x1, x2, x3⟩ := (hS.1 rfl).1.two
        go_simp
        exact hK _ _ (Below.refl _ _) rfl
      · refine @id (StepG _ _ _ _ _ _ _ _ _ _ _) ?_
        intro nst ys wx hn hmay hw hS hd
        intro K hK
        simp only [putL, Act.put, List.setIfInBounds_toArray, List.set_cons_zero, List.set_cons_succ, Nat.zero_add, Nat.reduceAdd] at hK ⊢
        rw [if_pos (by rfl)]
        go_simp
        exact hK _ _ (Below.refl _ _) rfl
      · refine @id (StepG _ _ _ _ _ _ _ _ _ _ _) ?_
        intro nst ys wx hn hmay hw hS hd
        intro K hK
        have e1 : ys 1 = _ := hd 1 (by decide)
        simp only [putL, Act.put, List.setIfInBounds_toArray, List.set_cons_zero, List.set_cons_succ, Nat.zero_add, Nat.reduceAdd, e1] at hK ⊢
        rw [if_pos (by rfl)]
        have q3 : IntKind.i64.wrap ((j : Nat) : Int) = (j : Int) := wrap_nat (by omega)
        go_simp
        exact hK _ _ (Below.refl _ _) rfl
      · refine @id (StepG _ _ _ _ _ _ _ _ _ _ _) ?_
        intro nst ys wx hn hmay hw hS hd
        intro K hK
        simp only [putL, Act.put, List.setIfInBounds_toArray, List.set_cons_zero, List.set_cons_succ, Nat.zero_add, Nat.reduceAdd] at hK ⊢
        rw [if_pos (by rfl)]
        go_simp
        exact hK _ _ (Below.refl _ _) rfl
      · refine @id (StepG _ _ _ _ _ _ _ _ _ _ _) ?_
        intro nst ys wx hn hmay hw hS hd
        obtain rfl : nst = 0 := may_one hmay hn (by kernel_rfl)
        intro K hK
        have e3 : ys 3 = _ := hd 3 (by decide)
        simp only [putL, Act.put, List.setIfInBounds_toArray, List.set_cons_zero, List.set_cons_succ, Nat.zero_add, Nat.reduceAdd, e3] at hK ⊢
        rw [if_pos (by rfl)]
        obtain ⟨x0, x1, x2, x3⟩ := hS.2.2.1.two
        go_simp
        exact hK _ _ (Below.refl _ _) rfl
      · refine @id (StepG _ _ _ _ _ _ _ _ _ _ _) ?_
        intro nst ys wx hn hmay hw hS hd
        intro K hK
        simp only [putL, Act.put, List.setIfInBounds_toArray, List.set_cons_zero, List.set_cons_succ, Nat.zero_add, Nat.reduceAdd] at hK ⊢
        rw [if_pos (by rfl)]
        go_simp
        exact hK _ _ (Below.refl _ _) rfl
      · refine @id (StepG _ _ _ _ _ _ _ _ _ _ _) ?_
        intro nst ys wx hn hmay hw hS hd
        obtain rfl : nst = 0 := may_one hmay hn (by kernel_rfl)
        intro K hK
        have e5 : ys 5 = _ := hd 5 (by decide)
        simp only [putL, Act.put, List.setIfInBounds_toArray, List.set_cons_zero, List.set_cons_succ, Nat.zero_add, Nat.reduceAdd, e5] at hK ⊢
        rw [if_pos (by rfl)]
        obtain ⟨x0, x1, x2, x3⟩ := hS.2.2.1.two
        go_simp
        exact hK _ _ (Below.refl _ _) rfl
      · refine @id (StepG _ _ _ _ _ _ _ _ _ _ _) ?_
        intro nst ys wx hn hmay hw hS hd
        intro K hK
        simp only [putL, Act.put, List.setIfInBounds_toArray, List.set_cons_zero, List.set_cons_succ, Nat.zero_add, Nat.reduceAdd] at hK ⊢
        rw [if_pos (by rfl)]
        go_simp
        exact hK _ _ (Below.refl _ _) rfl
      · refine @id (StepG _ _ _ _ _ _ _ _ _ _ _) ?_
        intro nst ys wx hn hmay hw hS hd
        intro K hK
        have e7 : ys 7 = _ := hd 7 (by decide)
        simp only [putL, Act.put, List.setIfInBounds_toArray, List.set_cons_zero, List.set_cons_succ, Nat.zero_add, Nat.reduceAdd, e7] at hK ⊢
        rw [if_pos (by rfl)]
        have q3 : IntKind.i64.wrap ((j : Nat) : Int) = (j : Int) := wrap_nat (by omega)
        go_simp
        exact hK _ _ (Below.refl _ _) rfl
      · refine @id (StepG _ _ _ _ _ _ _ _ _ _ _) ?_
        intro nst ys wx hn hmay hw hS hd
        intro K hK
        have e6 : ys 6 = _ := hd 6 (by decide)
        have e8 : ys 8 = _ := hd 8 (by decide)
        simp only [putL, Act.put, List.setIfInBounds_toArray, List.set_cons_zero, List.set_cons_succ, Nat.zero_add, Nat.reduceAdd, e6, e8] at hK ⊢
        rw [if_pos (by rfl)]
        have q1 : (j : Int) < 4 := by omega
        have q0 : (0 : Int) ≤ j := by omega
        have q2 : (j : Int).toNat = j := by omega
        go_simp
        exact hK _ _ (Below.refl _ _) rfl
      · refine @id (StepG _ _ _ _ _ _ _ _ _ _ _) ?_
        intro nst ys wx hn hmay hw hS hd
        intro K hK
        have e9 : ys 9 = _ := hd 9 (by decide)
        simp only [putL, Act.put, List.setIfInBounds_toArray, List.set_cons_zero, List.set_cons_succ, Nat.zero_add, Nat.reduceAdd, e9] at hK ⊢
        rw [if_pos (by rfl)]
        have kx := (hw.cell (p := ⟨bc, oc + j, none⟩) hFbc.2).trans hu
        go_simp
        exact hK _ _ (Below.refl _ _) rfl
      · refine @id (StepG _ _ _ _ _ _ _ _ _ _ _) ?_
        intro nst ys wx hn hmay hw hS hd
        obtain rfl : nst = 0 := may_one hmay hn (by kernel_rfl)
        intro K hK
        have e0 : ys 0 = _ := hd 0 (by decide)
        have e2 : ys 2 = _ := hd 2 (by decide)
        have e4 : ys 4 = _ := hd 4 (by decide)
        have e10 : ys 10 = _ := hd 10 (by decide)
        simp only [putL, Act.put, List.setIfInBounds_toArray, List.set_cons_zero, List.set_cons_succ, Nat.zero_add, Nat.reduceAdd, e0, e2, e4, e10] at hK ⊢
        rw [if_pos (by rfl)]
        go_simp
        refine (ref_with a1 j s i.2[j] _ _ _ _ (hS.1 rfl).2 (okB.mono (okB.below HRu.out hw fun k hk _ => hk.2) fun k hk => .inl hk) HSK.out hj4 his).mono ?_
        rintro e w' ⟨v', rfl, hr', hb'⟩
        have hn := HN.out
        simp only [Nat.add_sub_cancel, HI1.out, HX.out] at hn
        rw [← hn] at hr'
        exact hK _ _ hb' (hr'.mono fun k hk => hk.elim id fun h => .inr (Nat.le_trans hS.2.2.2.2 h))
      · refine @id (StepS _ _ _ _ _ _ _ _ _ _ _) ?_
        intro ys wx hw hS hd K hK
        have k11 := hd 11 (by decide)
        change (Ra (fun k => F k ∧ k < w.heap.size ∨ w.heap.size + 3 ≤ k) (wrTo a i (j + 1 + 1))) wx (ys 11) at k11
        simp only [putL, Act.put, List.setIfInBounds_toArray, List.set_cons_zero, List.set_cons_succ, Nat.zero_add, Nat.reduceAdd] at hK ⊢
        rw [if_pos (by rfl)]
        have hsk2 := wrTo_shape HS.out HIC.out (j + 1 + 1)
        obtain ⟨b5, o5, c5, A5, c6, hy, _, _, _, _⟩ := RdA_open k11 hsk2
        have k11' := k11
        rw [hy] at k11'
        simp only [hy] at hK ⊢
        obtain ⟨x0, x1, x2, x3⟩ := (hS.1 rfl).1.two
        have g1 : BoxAt (set2 wx w.heap.size (.slice (some ⟨b5, o5, none⟩) 4 c5) (.slice A5 (wrTo a i (j + 1 + 1)).ints.length c6)) _ _ _ := (hS.1 rfl).1.put2
        have g2 : RdA (set2 wx w.heap.size (.slice (some ⟨b5, o5, none⟩) 4 c5) (.slice A5 (wrTo a i (j + 1 + 1)).ints.length c6)) _ _ _ := RdA.set2 k11' (b := w.heap.size) fun k hk => by omega
        have g3 : BoxAt (set2 wx w.heap.size (.slice (some ⟨b5, o5, none⟩) 4 c5) (.slice A5 (wrTo a i (j + 1 + 1)).ints.length c6)) _ _ _ := hS.2.2.1.far2 (by omega)
        have g4 : BoxAt (set2 wx w.heap.size (.slice (some ⟨b5, o5, none⟩) 4 c5) (.slice A5 (wrTo a i (j + 1 + 1)).ints.length c6)) _ _ _ := hS.2.2.2.1.far2 (by omega)
        have g5 : w.heap.size + 3 ≤ (set2 wx w.heap.size (.slice (some ⟨b5, o5, none⟩) 4 c5) (.slice A5 (wrTo a i (j + 1 + 1)).ints.length c6)).heap.size := by rw [set2_size]; exact hS.2.2.2.2
        have hbs := below_set2 (w := wx) (b := w.heap.size) (v0 := .slice (some ⟨b5, o5, none⟩) 4 c5) (v1 := .slice A5 (wrTo a i (j + 1 + 1)).ints.length c6) (Nat.le_refl _)
        go_simp
        exact hK undef _ hbs ⟨fun h => absurd h (by decide), fun _ => ⟨_, _, g1, g2⟩, g3, g4, g5⟩ trivial ⟨fun _ h => h, fun _ h => h, fun _ h => h, fun _ h => h, fun _ h => h, fun _ h => h, fun _ h => h, fun _ h => h, fun _ h => h, fun _ h => h, fun _ h => h, fun _ _ => trivial, fun _ h => h, trivial⟩
    · intro ys w' hl' hS' hV
      clear hV
      simp only [putL, Act.put, List.setIfInBounds_toArray, List.set_cons_zero, List.set_cons_succ, Nat.zero_add, Nat.reduceAdd]
      obtain ⟨dv, iv, r1, r2⟩ := hS'.2.1 rfl
      have H3 := Lib.hid (And.intro r1 (And.intro r2 (And.intro hS'.2.2.1 (And.intro hS'.2.2.2.1 (And.intro (H.out.2.2.2.2.1.trans (hl'.mono (Nat.le_refl _))) hS'.2.2.2.2)))))
      clear r1 r2 hS' hl'
      go_wp2
      go_roundw
      case rel => exact ⟨j + 1 + 1, by omega, by go_num, by omega, ⟨_, _, H3.out.1, H3.out.2.1⟩, H3.out.2.2.1, H3.out.2.2.2.1, H3.out.2.2.2.2.1, H3.out.2.2.2.2.2⟩
      case measure => simp [intOf]; omega
end Go.Proofs.Ytoendmbgfbhidaa

/- array.Plan: what it computes: the walk. -/
import Derived.Test.YtdcmbdghnkgghaaDoorC19
namespace Go.Proofs.YtdcmbdghnkgghaaDoor
set_option linter.unusedVariables false
open Go Go.RowKit M
theorem set_parts (X : List Bs) (r : Nat) (b : Bs) (h : r < X.length) : (X.set r b).take r ++ (X.set r b).drop (r + 1) = X.eraseIdx r := by
  rw [List.eraseIdx_eq_take_drop_succ, List.take_set_of_le (Nat.le_refl r), List.drop_set_of_lt (Nat.lt_succ_self r)]
theorem parts_rd {w : World} {F : Fp} {g c r : Nat} {X : List Bs} (h : RdBB w F (.slice (some ⟨g, 0, none⟩) 4 c) X) (hr : r < 4) :
    RdBB w F (.slice (some ⟨g, 0, none⟩) r c) (X.take r) ∧ RdBB w F (.slice (if c = r + 1 then some ⟨g, 0, none⟩ else some ⟨g, r + 1, none⟩) (3 - r) (c - (r + 1))) (X.drop (r + 1)) := by
  have hl := h.len
  have hc := h.cap
  refine ⟨?_, ?_⟩
  · have := h.part (i := 0) (j := r) (by omega) (by omega) c (by omega) hc.2
    simpa using this
  · by_cases e : c = r + 1
    · rw [if_pos e]
      have hr3 : r = 3 := by omega
      subst hr3
      have : X.drop (3 + 1) = [] := List.drop_eq_nil_of_le (by omega)
      rw [this]
      exact RdL.nil_ _ _ _ _ _ (by omega)
    · rw [if_neg e]
      have := h.part (i := r + 1) (j := 4) (by omega) (by omega) (c - (r + 1)) (by omega) (by omega)
      rw [show 4 - (r + 1) = 3 - r by omega, Nat.zero_add, List.take_of_length_le (by rw [List.length_drop]; omega)] at this
      exact this
set_option maxRecDepth 100000 in
theorem slices_ConcatB (xs ys : List Bs) (v : Value) (F : Fp) (w : World) (h : RdBBB w F v [xs, ys]) (hl : xs.length + ys.length = 3) :
    Calls Tryd.prog 61 #[v] w fun e w' => ∃ v', e = .returned v' ∧ RdBB w' (fun k => (F k ∧ k < w.heap.size) ∨ w.heap.size ≤ k) v' (xs ++ ys) ∧ Below w.heap.size w w' := by
  obtain ⟨us, hus, hul, hR⟩ := h.vals okBB
  obtain ⟨u0, u1, rfl⟩ : ∃ u0 u1, us = [u0, u1] := by
    match us, hul with
    | [a, b], _ => exact ⟨a, b, rfl⟩
  have h0 := hR 0 u0 xs rfl rfl
  have h1 := hR 1 u1 ys rfl rfl
  obtain ⟨vx, hx1, hx2, hx3⟩ := h0.vals okB
  obtain ⟨vy, hy1, hy2, hy3⟩ := h1.vals okB
  have hv : RdL (RdL RV) w F v [vx, vy] := RdL.of_vals hus rfl fun j u x hu hx => by
    match j with
    | 0 => injection hu with hu; injection hx with hx; subst hu; subst hx; exact hx1
    | 1 => injection hu with hu; injection hx with hx; subst hu; subst hx; exact hy1
    | j + 2 => simp at hu
  have he : [vx, vy].flatten = vx ++ vy := by simp
  refine (slices_Concat3 [vx, vy] v F w hv (by rw [he, List.length_append]; omega)).mono ?_
  rintro e w' ⟨v', rfl, hv', hb⟩
  rw [he] at hv'
  have hE : ∀ (u : Value) (x : Bs), RdB w F u x → RdB w' (fun k => (F k ∧ k < w.heap.size) ∨ w.heap.size ≤ k) u x := fun u x hu => okB.old hu hb fun k hk hl => .inl ⟨hk, hl⟩
  refine ⟨v', rfl, RdL.of_vals ((hv'.anyG (G' := fun _ => False)).toRd okRV (fun k hk => .inr hk) fun k hk => hk.elim) (by rw [List.length_append, List.length_append, hx2, hy2]) fun j u x hu hx => ?_, hb⟩
  by_cases hj : j < vx.length
  · rw [List.getElem?_append_left hj] at hu
    rw [List.getElem?_append_left (by omega)] at hx
    exact hE _ _ (hx3 j u x hu hx)
  · rw [List.getElem?_append_right (by omega)] at hu
    rw [List.getElem?_append_right (by omega), ← hx2] at hx
    exact hE _ _ (hy3 _ u x hu hx)

set_option maxRecDepth 100000 in
set_option maxHeartbeats 1600000 in
theorem array_Plan (a : Arr) (d : Deed) (v vd : Value) (F : Fp) {F2 : Fp} (w : World) (h : RdA w F v a) (hd : RdD w F2 vd d) (hsh : Shape a.disks) :
    Calls Tryd.prog 35 #[v, vd] w fun e w' => ∃ v', e = .returned (.tuple #[v', .int .i64 (planA a.disks d).2]) ∧ RdI w' (fun k => w.heap.size ≤ k) v' (planA a.disks d).1 ∧ Below w.heap.size w w' := by
  obtain ⟨b0, o0, c0, Ai, ci, rfl, hD, hI, hc0, hc1⟩ := RdA_open h hsh
  obtain ⟨dv, rfl, hdv⟩ := hd
  replace hdv := okB.lt hdv
  obtain ⟨Ad, cd, rfl, _, _⟩ := hdv.shape
  obtain ⟨w1, hW, hA, hX, hZ, hB, hsz⟩ := boxes3 w [.slice (some ⟨b0, o0, none⟩) 4 c0, .slice Ai a.ints.length ci] [.int .i64 d.kind, .int .i64 d.n, .int .i64 d.m, .slice Ad d.data.length cd] [.int .i64 0, .slice none 0 0] 37 24 78
  change (((w.alloc (.cells #[.slice (some ⟨b0, o0, none⟩) 4 c0, .slice Ai a.ints.length ci] 37)).alloc (.cells #[.int .i64 d.kind, .int .i64 d.n, .int .i64 d.m, .slice Ad d.data.length cd] 24)).alloc (.cells #[.int .i64 0, .slice none 0 0] 78)) = w1 at hW
  have HSZ := Lib.hid hsz
  have HS := Lib.hid hsh
  clear hsz hsh h
  obtain ⟨y0, y1, y2, y3⟩ := hX.four
  go_enter Tryd.func35, Tryd.ntmps35
  go_wp2_with fail
  clear hW
  refine (model_Wrong d _ _ _ ⟨_, rfl, okB.grow hdv hB⟩).mono ?_
  rintro e w2 ⟨rfl, hb2⟩
  have hB2 := hB.trans (hb2.mono hB.size)
  have hX2 := hX.grow hb2
  have hA2 := hA.grow hb2
  have hZ2 := hZ.grow hb2
  clear y0 y1 y2 y3 hX hA hZ hB hb2
  by_cases hr : wrongI d = 0
  rotate_left
  · have HP := Lib.hid (plan_wrong (D := a.disks) hr)
    obtain ⟨z0, z1, z2, z3⟩ := hZ2.two
    have H := Lib.hid (plan_none_end _ hZ2 hB2)
    have hne : (wrongI d != 0) = true := by simpa using hr
    clear hX2 hA2 hZ2 hB2 hr
    go_wp2_with fail
    exact bodyPost_ret (v := .tuple #[.agg #[.int .i64 0, .slice none 0 0], .int .i64 (wrongI d)]) (by simp [results, Tryd.results35, go_sem, *]) rfl (by rw [HP.out]; exact ⟨_, rfl, H.out.1, H.out.2⟩)
  rw [hr]
  obtain ⟨⟨n0, n1⟩, _⟩ := wrong_ok hr
  have HR := Lib.hid hr
  obtain ⟨n, hn⟩ : ∃ n : Nat, d.n = n := ⟨d.n.toNat, by omega⟩
  have hn9 : n < 9 := by omega
  have hnt : d.n.toNat = n := by omega
  rw [hn] at hX2
  obtain ⟨s, hs⟩ : ∃ s, n / 3 = s := ⟨_, rfl⟩
  obtain ⟨x, hx⟩ : ∃ x, whereN n = x := ⟨_, rfl⟩
  have hx4 : x < 4 := by rw [← hx]; exact (whereN_ne hn9).2
  have hs3 : s < 3 := by omega
  have PL := @plan_lost a.disks d hr
  have PH := @plan_had a.disks d hr
  rw [hnt, hs] at PL PH
  have HPL := Lib.hid PL
  have HPH := Lib.hid PH
  have HSN := Lib.hid (show s = d.n.toNat / 3 by rw [hnt, hs])
  have HXN := Lib.hid (show whereN d.n.toNat = x by rw [hnt, hx])
  obtain ⟨x0, x1, x2, x3⟩ := hA2.two
  obtain ⟨y0, y1, y2, y3⟩ := hX2.four
  have HN := Lib.hid hn
  clear hr n0 n1 hn hnt PL PH
  go_wp2_with fail
  refine (plan_Where n _ hn9).mono ?_
  rintro e w3 ⟨rfl, hw3⟩
  subst hw3
  rw [where_eq, hs, hx]
  clear hs hx y0 y1 y2 y3
  go_wp2_with fail
  refine (stripe_Cells a s _ _ _ ⟨_, _, rfl, okBBB.grow hD hB2, okIs.grow hI hB2⟩ HS.out hs3).mono ?_
  rintro e w4 ⟨v4, rfl, hv4, hb4⟩
  have hr4 := hv4.toRd_ okB
  have HL4 := Lib.hid (show (cellsA a.disks s).length = 4 by rw [cellsA_len, HS.out.1])
  have hB4 := hB2.trans (hb4.mono hB2.size)
  have hX4 := hX2.grow hb4
  have hZ4 := hZ2.grow hb4
  have hs4 := hZ4.lt
  clear x0 x1 x2 x3 hX2 hA2 hZ2 hB2 hb4 hv4
  go_wp2_with fail
  refine (stripe_Data (cellsA a.disks s) s _ _ _ hr4 (by rw [HL4.out]; decide)).mono ?_
  rintro e w5 ⟨v5, rfl, hv5, hb5⟩
  have hB5 := hB4.trans (hb5.mono hB4.size)
  have hX5 := hX4.grow hb5
  have hZ5 := hZ4.grow hb5
  have hs45 := hb5.size
  clear hX4 hZ4 hB4 hb5 hr4
  by_cases h9 : (dataL (cellsA a.disks s) s).2 = 0
  rotate_left
  · have HP := Lib.hid (HPL.out h9)
    obtain ⟨z0, z1, z2, z3⟩ := hZ5.two
    have H := Lib.hid (plan_none_end _ hZ5 hB5)
    have hne : ((dataL (cellsA a.disks s) s).2 != 0) = true := by simpa using h9
    clear hX5 hZ5 hB5 h9 hv5 HPH HPL
    generalize (dataL (cellsA a.disks s) s).2 = q at *
    go_wp2_with fail
    exact bodyPost_ret (v := .tuple #[.agg #[.int .i64 0, .slice none 0 0], .int .i64 q]) (by simp [results, Tryd.results35, go_sem, *]) rfl (by rw [HP.out]; exact ⟨_, rfl, H.out.1, H.out.2⟩)
  have HP := Lib.hid (HPH.out h9)
  obtain ⟨q1, q2, _⟩ := data_blocks h9
  rw [HL4.out] at q1
  rw [h9]
  clear h9 HPL HPH
  obtain ⟨D, hDD⟩ : ∃ D, (dataL (cellsA a.disks s) s).1 = D := ⟨_, rfl⟩
  rw [hDD] at q1 q2 hv5 HP
  have hv5' := hv5.mono okB (G' := fun _ => True) fun _ _ _ => trivial
  clear hv5
  obtain ⟨g, c5, rfl, hg0, hg1, hc5, hc5m⟩ := hv5'.form (by omega)
  rw [q1] at hv5' hc5 ⊢
  unfold maxLen at hc5m
  have HQ1 := Lib.hid q1
  have HQ2 := Lib.hid q2
  have HV5 := Lib.hid hv5'
  have HB5 := Lib.hid hB5
  have HZ5 := Lib.hid hZ5
  have hdv5 := Lib.hid (okB.grow hdv hB5)
  have HPE := Lib.hid (plan_zero HR.out HQ1.out HQ2.out)
  have HPB := Lib.hid (planE_blocks HR.out HQ1.out HQ2.out)
  have HPD : Hid ((planE D d).set (3 - s) (xorAll ((planE D d).eraseIdx (3 - s))) = planData D d) := Lib.hid (by rw [planData_eq, ← HSN.out])
  have HEL : Hid ((planE D d).length = 4) := by rw [planE_len]; exact HQ1.out
  clear hDD q1 q2 hv5' hB5 hZ5 hdv hD hI
  rcases (wrong_ok HR.out).2 with ⟨hk, _, hl⟩ | ⟨hk, ⟨m0, m1⟩, _, _⟩
  · have HPW : Hid (planE D d = D.set x d.data) := by show planE D d = _; unfold planE; rw [if_pos hk, HXN.out]
    rw [hk, hl] at hX5
    have HLD := Lib.hid hl
    obtain ⟨y0, y1, y2, y3⟩ := hX5.four
    clear hX5 hk
    go_wp2_with fail
    refine (clone_B d.data _ _ _ (by have := hdv5.out; rw [HLD.out] at this; exact this) (by rw [HLD.out]; decide)).mono ?_
    rintro e w6 ⟨v6, rfl, hv6, hb6⟩
    have hr6 : RdB w6 (fun k => k ≠ g ∧ True) v6 d.data := okB.mono ((hv6.bytes (G' := fun k => w5.heap.size ≤ k)).toRd ok8 (F := fun k => w5.heap.size ≤ k) (fun _ hk => hk) (fun _ hk => hk)) fun k hk => ⟨by omega, trivial⟩
    obtain ⟨A6, c6, rfl, _, _⟩ := hr6.shape
    rw [hl] at hr6 ⊢
    have hO6 := HV5.out.grow okB hb6
    have hxD : x < D.length := by rw [HQ1.out]; exact hx4
    have hset := hO6.set_ okB hxD hr6
    obtain ⟨_, hu6, hfz6, -⟩ := hO6.at_ hxD
    rw [← HPW.out] at hset
    have hbs := (hb6.mono hs45).setCell (p := ⟨g, x, none⟩) hg0 (.slice A6 4 c6)
    obtain ⟨w7, hw7⟩ : ∃ w7, w6.setCell ⟨g, x, none⟩ (.slice A6 4 c6) = w7 := ⟨_, rfl⟩
    rw [hw7] at hset hbs
    have HE := Lib.hid hset
    have HB7 := Lib.hid hbs
    have q0 : (0 : Int) ≤ x := by omega
    have q1 : (x : Int) < 4 := by omega
    have q2 : (x : Int).toNat = x := by omega
    clear hset hbs hr6 hO6 hxD hv6 hb6 hl
    go_wp2_with fail
    clear hw7 q0 q1 q2 hu6 hfz6 y0 y1 y2 y3
    obtain ⟨r, hr⟩ : ∃ r, 3 - s = r := ⟨_, rfl⟩
    have hr4 : r < 4 := by omega
    rw [hr] at HPD
    refine (plan_Spare s _ (by omega) (by omega)).mono ?_
    rintro e wS ⟨rfl, hwS⟩
    subst hwS
    rw [show (3 : Int) - (s : Int) % 4 = (r : Int) by omega]
    have hr4' : r < (planE D d).length := by rw [HEL.out]; exact hr4
    have hset := HE.out.set_ okB hr4' (u := .slice none 0 0) (x := []) (RdL.nil_ _ _ _ _ _ (by decide))
    obtain ⟨_, hu7, hfz7, -⟩ := HE.out.at_ hr4'
    have hbs := (HB7.out).setCell (p := ⟨g, r, none⟩) hg0 (.slice none 0 0)
    obtain ⟨w8, hw8⟩ : ∃ w8, w7.setCell ⟨g, r, none⟩ (.slice none 0 0) = w8 := ⟨_, rfl⟩
    rw [hw8] at hset hbs
    have hs8 : w4.heap.size ≤ w8.heap.size := by
      have h1 := hbs.size
      omega
    have HQ8 := Lib.hid hset
    have HB8 := Lib.hid hbs
    have q0 : (0 : Int) ≤ r := by omega
    have q1 : (r : Int) < 4 := by omega
    have q2 : (r : Int).toNat = r := by omega
    clear hset hbs HE HB7 hr
    go_wp2_with fail
    clear hw8 hu7 hfz7
    have p1 : r ≤ c5 := by omega
    have p2 : r + 1 ≤ 4 := by omega
    have p3 : IntKind.i64.wrap ((r : Int) + 1) = (r : Int) + 1 := IntWalk.i64_in _ (by omega)
    have p4 : ((r : Int) + 1).toNat = r + 1 := by omega
    have p5 : (r : Int) ≤ c5 := by omega
    have p6 : (r : Int) + 1 ≤ 4 := by omega
    have p7 : (0 : Int) ≤ (r : Int) + 1 := by omega
    have p8 : 4 ≤ c5 := by omega
    have p9 : 4 - (r + 1) = 3 - r := by omega
    refine region_three (w4.heap.size) [Ck (.slice (some ⟨g, 0, none⟩) 4 c5), Ck (.int .i64 r), Ck (.slice (some ⟨g, 0, none⟩) 4 c5), Ck (.int .i64 r), Ck (.slice (some ⟨g, 0, none⟩) r c5), Ck (.slice (some ⟨g, 0, none⟩) 4 c5), Ck (.int .i64 r), Ck (.int .i64 ((r : Int) + 1)), Ck (.slice (if c5 = r + 1 then some ⟨g, 0, none⟩ else some ⟨g, r + 1, none⟩) (3 - r) (c5 - (r + 1))), Ek 0 (Rv RdBBB [((planE D d).set r []).take r, ((planE D d).set r []).drop (r + 1)]), Ek 0 (Rv RdBB ((planE D d).eraseIdx r)), Ek 0 (Rn RdB g (xorAll ((planE D d).eraseIdx r))), Ck (.pointer (some ⟨g, r, none⟩)), Tk] (fun q wx => Bld RdB 22 wx w4.heap.size (fun _ => True) (.slice (some ⟨g, 0, none⟩) 4 c5) (if q = 0 then (planE D d).set r [] else planData D d)) [13] (by kernel_rfl) (by kernel_rfl) (by kernel_rfl) (by kernel_rfl) (by kernel_rfl) ?_ ?_ (fun q w w' hb h => h.grow okB hb) (HQ8.out) ?_ ?_
    · first | exact Nat.le_refl _ | assumption | omega
    · repeat (first | exact trivial | refine ⟨mCk _, ?_⟩ | refine ⟨mTk, ?_⟩ | refine ⟨mEk _ (by first | exact mC _ | exact mT | exact mR okB _ | exact mR okBB _ | exact mR okBBB _ | exact mRn okB _ _ | exact mRn okBB _ _ | exact mOw _ _ _ _ | exact mRm okB _ _ _ | exact mRa _ _ | exact mRg okROW _ _ | exact mRg okROWS _ _ | exact mRf okDISKS _ _ | exact mRg okCELL _ _ | exact mRg okBB _ _ | exact mRg okB _ _ | exact mRg okIs _ _ | exact mRi _ _ | exact mOx _ _), ?_⟩ | refine ⟨mFk _ (by first | exact mC _ | exact mT | exact mR okB _ | exact mR okBB _ | exact mR okBBB _ | exact mRn okB _ _ | exact mRn okBB _ _ | exact mOw _ _ _ _ | exact mRm okB _ _ _ | exact mRa _ _ | exact mRg okROW _ _ | exact mRg okROWS _ _ | exact mRf okDISKS _ _ | exact mRg okCELL _ _ | exact mRg okBB _ _ | exact mRg okB _ _ | exact mRg okIs _ _ | exact mRi _ _ | exact mOx _ _), ?_⟩ | refine ⟨fun _ => (by first | exact mC _ | exact mT | exact mR okB _ | exact mR okBB _ | exact mR okBBB _ | exact mRn okB _ _ | exact mRn okBB _ _ | exact mOw _ _ _ _ | exact mRm okB _ _ _ | exact mRa _ _ | exact mRg okROW _ _ | exact mRg okROWS _ _ | exact mRf okDISKS _ _ | exact mRg okCELL _ _ | exact mRg okBB _ _ | exact mRg okB _ _ | exact mRg okIs _ _ | exact mRi _ _ | exact mOx _ _), ?_⟩)
    · simp only [StepsL3]
      refine ⟨?_, ?_, ?_, ?_, ?_, ?_, ?_, ?_, ?_, ?_, ?_, ?_, ?_, ?_, trivial⟩
      · refine @id (StepG _ _ _ _ _ _ _ _ _ _ _) ?_
        intro nst ys wx hn hmay hw hS hd
        intro K hK
        simp only [putL, Act.put, List.setIfInBounds_toArray, List.set_cons_zero, List.set_cons_succ, Nat.zero_add, Nat.reduceAdd] at hK ⊢
        rw [if_pos (by rfl)]
        go_simp
        exact hK _ _ (Below.refl _ _) rfl
      · refine @id (StepG _ _ _ _ _ _ _ _ _ _ _) ?_
        intro nst ys wx hn hmay hw hS hd
        intro K hK
        simp only [putL, Act.put, List.setIfInBounds_toArray, List.set_cons_zero, List.set_cons_succ, Nat.zero_add, Nat.reduceAdd] at hK ⊢
        rw [if_pos (by rfl)]
        go_simp
        exact hK _ _ (Below.refl _ _) rfl
      · refine @id (StepG _ _ _ _ _ _ _ _ _ _ _) ?_
        intro nst ys wx hn hmay hw hS hd
        intro K hK
        simp only [putL, Act.put, List.setIfInBounds_toArray, List.set_cons_zero, List.set_cons_succ, Nat.zero_add, Nat.reduceAdd] at hK ⊢
        rw [if_pos (by rfl)]
        go_simp
        exact hK _ _ (Below.refl _ _) rfl
      · refine @id (StepG _ _ _ _ _ _ _ _ _ _ _) ?_
        intro nst ys wx hn hmay hw hS hd
        intro K hK
        simp only [putL, Act.put, List.setIfInBounds_toArray, List.set_cons_zero, List.set_cons_succ, Nat.zero_add, Nat.reduceAdd] at hK ⊢
        rw [if_pos (by rfl)]
        go_simp
        exact hK _ _ (Below.refl _ _) rfl
      · refine @id (StepG _ _ _ _ _ _ _ _ _ _ _) ?_
        intro nst ys wx hn hmay hw hS hd
        intro K hK
        have e2 : ys 2 = _ := hd 2 (by decide)
        have e3 : ys 3 = _ := hd 3 (by decide)
        simp only [putL, Act.put, List.setIfInBounds_toArray, List.set_cons_zero, List.set_cons_succ, Nat.zero_add, Nat.reduceAdd, e2, e3] at hK ⊢
        rw [if_pos (by rfl)]
        go_simp
        exact hK _ _ (Below.refl _ _) rfl
      · refine @id (StepG _ _ _ _ _ _ _ _ _ _ _) ?_
        intro nst ys wx hn hmay hw hS hd
        intro K hK
        simp only [putL, Act.put, List.setIfInBounds_toArray, List.set_cons_zero, List.set_cons_succ, Nat.zero_add, Nat.reduceAdd] at hK ⊢
        rw [if_pos (by rfl)]
        go_simp
        exact hK _ _ (Below.refl _ _) rfl
      · refine @id (StepG _ _ _ _ _ _ _ _ _ _ _) ?_
        intro nst ys wx hn hmay hw hS hd
        intro K hK
        simp only [putL, Act.put, List.setIfInBounds_toArray, List.set_cons_zero, List.set_cons_succ, Nat.zero_add, Nat.reduceAdd] at hK ⊢
        rw [if_pos (by rfl)]
        go_simp
        exact hK _ _ (Below.refl _ _) rfl
      · refine @id (StepG _ _ _ _ _ _ _ _ _ _ _) ?_
        intro nst ys wx hn hmay hw hS hd
        intro K hK
        have e6 : ys 6 = _ := hd 6 (by decide)
        simp only [putL, Act.put, List.setIfInBounds_toArray, List.set_cons_zero, List.set_cons_succ, Nat.zero_add, Nat.reduceAdd, e6] at hK ⊢
        rw [if_pos (by rfl)]
        go_simp
        exact hK _ _ (Below.refl _ _) rfl
      · refine @id (StepG _ _ _ _ _ _ _ _ _ _ _) ?_
        intro nst ys wx hn hmay hw hS hd
        intro K hK
        have e5 : ys 5 = _ := hd 5 (by decide)
        have e7 : ys 7 = _ := hd 7 (by decide)
        simp only [putL, Act.put, List.setIfInBounds_toArray, List.set_cons_zero, List.set_cons_succ, Nat.zero_add, Nat.reduceAdd, e5, e7] at hK ⊢
        rw [if_pos (by rfl)]
        go_simp
        exact hK _ _ (Below.refl _ _) rfl
      · refine @id (StepG _ _ _ _ _ _ _ _ _ _ _) ?_
        intro nst ys wx hn hmay hw hS hd
        obtain rfl : nst = 0 := may_one hmay hn (by kernel_rfl)
        intro K hK
        have e4 : ys 4 = _ := hd 4 (by decide)
        have e8 : ys 8 = _ := hd 8 (by decide)
        simp only [putL, Act.put, List.setIfInBounds_toArray, List.set_cons_zero, List.set_cons_succ, Nat.zero_add, Nat.reduceAdd, e4, e8] at hK ⊢
        rw [if_pos (by rfl)]
        have hS0 : Bld RdB 22 wx w4.heap.size (fun _ => True) (.slice (some ⟨g, 0, none⟩) 4 c5) ((planE D d).set r []) := hS
        obtain ⟨h1, h2⟩ := parts_rd (hS0.toRd_ okB) hr4
        have ha := RdL.two_ okBB (okBB.mono h1 (F' := fun k => k < wx.heap.size + 1) fun k hk => Nat.lt_succ_of_lt hk) (okBB.mono h2 (F' := fun k => k < wx.heap.size + 1) fun k hk => Nat.lt_succ_of_lt hk) 38 (Nat.lt_succ_self _)
        go_simp
        exact hK _ _ (below_alloc _ _) (okBBB.mono ha fun k hk => by rw [alloc_size]; exact hk)
      · refine @id (StepG _ _ _ _ _ _ _ _ _ _ _) ?_
        intro nst ys wx hn hmay hw hS hd
        obtain rfl : nst = 0 := may_one hmay hn (by kernel_rfl)
        intro K hK
        have k9 := hd 9 (by decide)
        change (Rv RdBBB [((planE D d).set r []).take r, ((planE D d).set r []).drop (r + 1)]) wx (ys 9) at k9
        simp only [putL, Act.put, List.setIfInBounds_toArray, List.set_cons_zero, List.set_cons_succ, Nat.zero_add, Nat.reduceAdd] at hK ⊢
        rw [if_pos (by rfl)]
        have k9' : RdBBB wx (fun k => k < wx.heap.size) (ys 9) [((planE D d).set r []).take r, ((planE D d).set r []).drop (r + 1)] := k9
        obtain ⟨A9, c9, hy9, _, _⟩ := k9'.shape
        rw [hy9] at k9'
        simp only [hy9] at hK ⊢
        clear k9 hy9
        have hlen : (((planE D d).set r []).take r).length + (((planE D d).set r []).drop (r + 1)).length = 3 := by
          have := HEL.out
          rw [List.length_take, List.length_drop, List.length_set]
          omega
        have hpart := set_parts (planE D d) r [] hr4'
        go_simp
        refine (slices_ConcatB _ _ _ _ _ k9' hlen).mono ?_
        rintro e w' ⟨v', rfl, hv', hb'⟩
        rw [hpart] at hv'
        exact hK _ _ hb' (okBB.mono (okBB.lt hv') fun k hk => hk.2)
      · refine @id (StepG _ _ _ _ _ _ _ _ _ _ _) ?_
        intro nst ys wx hn hmay hw hS hd
        obtain rfl : nst = 0 := may_one hmay hn (by kernel_rfl)
        intro K hK
        have k10 := hd 10 (by decide)
        change (Rv RdBB ((planE D d).eraseIdx r)) wx (ys 10) at k10
        simp only [putL, Act.put, List.setIfInBounds_toArray, List.set_cons_zero, List.set_cons_succ, Nat.zero_add, Nat.reduceAdd] at hK ⊢
        rw [if_pos (by rfl)]
        have k10' : RdBB wx (fun k => k < wx.heap.size) (ys 10) ((planE D d).eraseIdx r) := k10
        obtain ⟨A10, c10, hy10, _, _⟩ := k10'.shape
        rw [hy10] at k10'
        simp only [hy10] at hK ⊢
        clear k10 hy10
        have hS0 : Bld RdB 22 wx w4.heap.size (fun _ => True) (.slice (some ⟨g, 0, none⟩) 4 c5) ((planE D d).set r []) := hS
        have hgx := (hS0.blk g rfl).2
        have h4e : Blocks4 ((planE D d).eraseIdx r) := fun b hb => HPB.out b (List.mem_of_mem_eraseIdx hb)
        go_simp
        refine (xor_All _ _ _ _ k10' h4e).mono ?_
        rintro e w' ⟨v', rfl, hv', hb'⟩
        exact hK _ _ hb' (okB.lt ((hv'.bytes (G' := fun k => wx.heap.size ≤ k)).toRd ok8 (F := fun k => wx.heap.size ≤ k) (fun k hk => hk) (fun k hk => hk)) |> fun h => okB.mono h fun k hk => ⟨by omega, hk.2⟩)
      · refine @id (StepG _ _ _ _ _ _ _ _ _ _ _) ?_
        intro nst ys wx hn hmay hw hS hd
        intro K hK
        have e0 : ys 0 = _ := hd 0 (by decide)
        have e1 : ys 1 = _ := hd 1 (by decide)
        simp only [putL, Act.put, List.setIfInBounds_toArray, List.set_cons_zero, List.set_cons_succ, Nat.zero_add, Nat.reduceAdd, e0, e1] at hK ⊢
        rw [if_pos (by rfl)]
        go_simp
        exact hK _ _ (Below.refl _ _) rfl
      · refine @id (StepS _ _ _ _ _ _ _ _ _ _ _) ?_
        intro ys wx hw hS hd K hK
        have k11 := hd 11 (by decide)
        change (Rn RdB g (xorAll ((planE D d).eraseIdx r))) wx (ys 11) at k11
        have e12 : ys 12 = _ := hd 12 (by decide)
        simp only [putL, Act.put, List.setIfInBounds_toArray, List.set_cons_zero, List.set_cons_succ, Nat.zero_add, Nat.reduceAdd, e12] at hK ⊢
        rw [if_pos (by rfl)]
        have hS0 : Bld RdB 22 wx w4.heap.size (fun _ => True) (.slice (some ⟨g, 0, none⟩) 4 c5) ((planE D d).set r []) := hS
        have k11' : RdB wx (fun k => k ≠ g ∧ k < wx.heap.size) (ys 11) (xorAll ((planE D d).eraseIdx r)) := k11
        obtain ⟨A11, c11, hy11, _, _⟩ := k11'.shape
        rw [hy11] at k11'
        simp only [hy11] at hK ⊢
        clear k11 hy11
        have hr5 : r < ((planE D d).set r []).length := by rw [List.length_set]; exact hr4'
        obtain ⟨u, hu, hfz, _⟩ := hS0.at_ hr5
        have hset := hS0.set_ okB hr5 (okB.mono k11' fun k hk => ⟨hk.1, trivial⟩)
        rw [List.set_set, HPD.out] at hset
        have hbs := (Below.refl w4.heap.size wx).setCell (p := ⟨g, r, none⟩) hg0 (.slice A11 (xorAll ((planE D d).eraseIdx r)).length c11)
        go_simp
        exact hK undef _ hbs hset trivial ⟨fun _ h => h, fun _ h => h, fun _ h => h, fun _ h => h, fun _ h => h, fun _ h => h, fun _ h => h, fun _ h => h, fun _ h => h, fun _ _ => trivial, fun _ _ => trivial, fun _ _ => trivial, fun _ h => h, fun _ h => h, trivial⟩
    · intro ys w' hl' hS' hV
      clear hV
      simp only [putL, Act.put, List.setIfInBounds_toArray, List.set_cons_zero, List.set_cons_succ, Nat.zero_add, Nat.reduceAdd]
      rename World => w9
      have hfin : Bld RdB 22 w9 w4.heap.size (fun _ => True) (.slice (some ⟨g, 0, none⟩) 4 c5) (planData D d) := hS'
      have HB9 := Lib.hid (HB8.out.trans hl')
      have HF9 := Lib.hid hfin
      clear hfin hS' hl' p1 p2 p3 p4 p5 p6 p7 p8 p9 q0 q1 q2 hr4' HQ8 HB8
      go_wp2_with fail
      refine (stripe_Make (planData D d) s _ _ _ (HF9.out.toRd_ okB) (by omega) (by rw [HPE.out.1]; decide) HPE.out.2.1).mono ?_
      rintro e w13 ⟨v13, rfl, hv13, hb13⟩
      have hr13 := hv13.toRd okB (R' := RdB) (fun h => h) okB
      obtain ⟨A13, c13, rfl, _, _⟩ := hr13.shape
      have hs59 := HB9.out.size
      have hZ13 := (HZ5.out.keep HB9.out hs4).grow hb13
      obtain ⟨z0, z1, z2, z3⟩ := hZ13.two
      have hB13 := (HB5.out.trans (HB9.out.mono (by omega))).trans (hb13.mono (by omega))
      have hr14 : RdBB (set2 w13 (w.heap.size + 1 + 1) (.int .i64 s) (.slice A13 (makeL (planData D d) s).length c13)) _ _ _ := okBB.set2 hr13 (b := w.heap.size + 1 + 1) fun k hk => by omega
      have hb14 := hB13.trans (below_set2 (b := w.heap.size + 1 + 1) (v0 := .int .i64 s) (v1 := .slice A13 (makeL (planData D d) s).length c13) (by omega))
      have HF := Lib.hid (And.intro (okBB.mono hr14 (F' := fun k => w.heap.size ≤ k) fun k hk => by omega) hb14)
      clear hr14 hb14 hr13 hv13 hb13 hZ13 hB13
      go_wp2_with fail
      exact bodyPost_ret (v := .tuple #[.agg #[.int .i64 s, .slice A13 (makeL (planData D d) s).length c13], .int .i64 0]) (by simp [results, Tryd.results35, go_sem, *]) rfl (by rw [HP.out]; exact ⟨_, rfl, ⟨_, rfl, HF.out.1⟩, HF.out.2⟩)
  · obtain ⟨m, hm⟩ : ∃ m : Nat, d.m = m := ⟨d.m.toNat, by omega⟩
    have hm9 : m < 9 := by omega
    obtain ⟨y, hy⟩ : ∃ y, whereN m = y := ⟨_, rfl⟩
    have hy4 : y < 4 := by rw [← hy]; exact (whereN_ne hm9).2
    have HPW : Hid (planE D d = (D.set x (D.getD y [])).set y (D.getD x [])) := by show planE D d = _; unfold planE; rw [if_neg (by omega), HXN.out, hm, Int.toNat_natCast, hy]
    rw [hk, hm] at hX5
    obtain ⟨y0, y1, y2, y3⟩ := hX5.four
    clear hX5 hk m0 m1 hm
    go_wp2_with fail
    refine (plan_Where m _ hm9).mono ?_
    rintro e w6 ⟨rfl, hw6⟩
    subst hw6
    rw [where_eq, hy]
    clear hy y0 y1 y2 y3
    have hxD : x < D.length := by rw [HQ1.out]; exact hx4
    have hyD : y < D.length := by rw [HQ1.out]; exact hy4
    obtain ⟨ux, hux, -, hRx⟩ := HV5.out.at_ hxD
    obtain ⟨uy, huy, -, hRy⟩ := HV5.out.at_ hyD
    obtain ⟨lx, hlx⟩ : ∃ l, l = D[x] := ⟨_, rfl⟩
    obtain ⟨ly, hly⟩ : ∃ l, l = D[y] := ⟨_, rfl⟩
    have e1 : D.getD x [] = lx := by rw [hlx]; simp [List.getD, hxD]
    have e2 : D.getD y [] = ly := by rw [hly]; simp [List.getD, hyD]
    obtain ⟨Ax, cx, rfl, _, _⟩ := hRx.shape
    obtain ⟨Ay, cy, rfl, _, _⟩ := hRy.shape
    rw [← hlx] at hRx hux
    rw [← hly] at hRy huy
    rw [e1, e2] at HPW
    have HUX := Lib.hid hux
    have HUY := Lib.hid huy
    have HRX := Lib.hid hRx
    have HRY := Lib.hid hRy
    have q0 : (0 : Int) ≤ x := by omega
    have q1 : (x : Int) < 4 := by omega
    have q2 : (x : Int).toNat = x := by omega
    have q3 : (0 : Int) ≤ y := by omega
    have q4 : (y : Int) < 4 := by omega
    have q5 : (y : Int).toNat = y := by omega
    clear hlx hly e1 e2 hux huy hRx hRy
    go_wp2_with fail
    refine region_three (w4.heap.size) [Ck (.slice (some ⟨g, 0, none⟩) 4 c5), Ck (.int .i64 x), Ck (.slice (some ⟨g, 0, none⟩) 4 c5), Ck (.int .i64 y), Ck (.slice (some ⟨g, 0, none⟩) 4 c5), Ck (.int .i64 y), Ck (.pointer (some ⟨g, y, none⟩)), Ck (.slice Ay ly.length cy), Ck (.slice (some ⟨g, 0, none⟩) 4 c5), Ck (.int .i64 x), Ck (.pointer (some ⟨g, x, none⟩)), Ck (.slice Ax lx.length cx), Ck (.pointer (some ⟨g, x, none⟩)), Tk, Ck (.pointer (some ⟨g, y, none⟩)), Tk] (fun q wx => Bld RdB 22 wx w4.heap.size (fun _ => True) (.slice (some ⟨g, 0, none⟩) 4 c5) (if q = 0 then D else if q = 1 then D.set x ly else (D.set x ly).set y lx) ∧ (q = 0 → wx.cell? ⟨g, x, none⟩ = some (.slice Ax lx.length cx) ∧ wx.cell? ⟨g, y, none⟩ = some (.slice Ay ly.length cy)) ∧ RdB wx (fun k => k ≠ g ∧ True) (.slice Ax lx.length cx) lx ∧ RdB wx (fun k => k ≠ g ∧ True) (.slice Ay ly.length cy) ly) [13, 15] (by kernel_rfl) (by kernel_rfl) (by kernel_rfl) (by kernel_rfl) (by kernel_rfl) ?_ ?_ (fun q w w' hb h => ⟨h.1.grow okB hb, fun hq => ⟨(hb.cell (h.1.blk g rfl).2).trans (h.2.1 hq).1, (hb.cell (h.1.blk g rfl).2).trans (h.2.1 hq).2⟩, okB.grow h.2.2.1 hb, okB.grow h.2.2.2 hb⟩) (⟨HV5.out, fun _ => ⟨HUX.out, HUY.out⟩, HRX.out, HRY.out⟩) ?_ ?_
    · first | exact Nat.le_refl _ | assumption | omega
    · repeat (first | exact trivial | refine ⟨mCk _, ?_⟩ | refine ⟨mTk, ?_⟩ | refine ⟨mEk _ (by first | exact mC _ | exact mT | exact mR okB _ | exact mR okBB _ | exact mR okBBB _ | exact mRn okB _ _ | exact mRn okBB _ _ | exact mOw _ _ _ _ | exact mRm okB _ _ _ | exact mRa _ _ | exact mRg okROW _ _ | exact mRg okROWS _ _ | exact mRf okDISKS _ _ | exact mRg okCELL _ _ | exact mRg okBB _ _ | exact mRg okB _ _ | exact mRg okIs _ _ | exact mRi _ _ | exact mOx _ _), ?_⟩ | refine ⟨mFk _ (by first | exact mC _ | exact mT | exact mR okB _ | exact mR okBB _ | exact mR okBBB _ | exact mRn okB _ _ | exact mRn okBB _ _ | exact mOw _ _ _ _ | exact mRm okB _ _ _ | exact mRa _ _ | exact mRg okROW _ _ | exact mRg okROWS _ _ | exact mRf okDISKS _ _ | exact mRg okCELL _ _ | exact mRg okBB _ _ | exact mRg okB _ _ | exact mRg okIs _ _ | exact mRi _ _ | exact mOx _ _), ?_⟩ | refine ⟨fun _ => (by first | exact mC _ | exact mT | exact mR okB _ | exact mR okBB _ | exact mR okBBB _ | exact mRn okB _ _ | exact mRn okBB _ _ | exact mOw _ _ _ _ | exact mRm okB _ _ _ | exact mRa _ _ | exact mRg okROW _ _ | exact mRg okROWS _ _ | exact mRf okDISKS _ _ | exact mRg okCELL _ _ | exact mRg okBB _ _ | exact mRg okB _ _ | exact mRg okIs _ _ | exact mRi _ _ | exact mOx _ _), ?_⟩)
    · simp only [StepsL3]
      refine ⟨?_, ?_, ?_, ?_, ?_, ?_, ?_, ?_, ?_, ?_, ?_, ?_, ?_, ?_, ?_, ?_, trivial⟩
      · refine @id (StepG _ _ _ _ _ _ _ _ _ _ _) ?_
        intro nst ys wx hn hmay hw hS hd
        intro K hK
        simp only [putL, Act.put, List.setIfInBounds_toArray, List.set_cons_zero, List.set_cons_succ, Nat.zero_add, Nat.reduceAdd] at hK ⊢
        rw [if_pos (by rfl)]
        go_simp
        exact hK _ _ (Below.refl _ _) rfl
      · refine @id (StepG _ _ _ _ _ _ _ _ _ _ _) ?_
        intro nst ys wx hn hmay hw hS hd
        intro K hK
        simp only [putL, Act.put, List.setIfInBounds_toArray, List.set_cons_zero, List.set_cons_succ, Nat.zero_add, Nat.reduceAdd] at hK ⊢
        rw [if_pos (by rfl)]
        go_simp
        exact hK _ _ (Below.refl _ _) rfl
      · refine @id (StepG _ _ _ _ _ _ _ _ _ _ _) ?_
        intro nst ys wx hn hmay hw hS hd
        intro K hK
        simp only [putL, Act.put, List.setIfInBounds_toArray, List.set_cons_zero, List.set_cons_succ, Nat.zero_add, Nat.reduceAdd] at hK ⊢
        rw [if_pos (by rfl)]
        go_simp
        exact hK _ _ (Below.refl _ _) rfl
      · refine @id (StepG _ _ _ _ _ _ _ _ _ _ _) ?_
        intro nst ys wx hn hmay hw hS hd
        intro K hK
        simp only [putL, Act.put, List.setIfInBounds_toArray, List.set_cons_zero, List.set_cons_succ, Nat.zero_add, Nat.reduceAdd] at hK ⊢
        rw [if_pos (by rfl)]
        go_simp
        exact hK _ _ (Below.refl _ _) rfl
      · refine @id (StepG _ _ _ _ _ _ _ _ _ _ _) ?_
        intro nst ys wx hn hmay hw hS hd
        intro K hK
        simp only [putL, Act.put, List.setIfInBounds_toArray, List.set_cons_zero, List.set_cons_succ, Nat.zero_add, Nat.reduceAdd] at hK ⊢
        rw [if_pos (by rfl)]
        go_simp
        exact hK _ _ (Below.refl _ _) rfl
      · refine @id (StepG _ _ _ _ _ _ _ _ _ _ _) ?_
        intro nst ys wx hn hmay hw hS hd
        intro K hK
        simp only [putL, Act.put, List.setIfInBounds_toArray, List.set_cons_zero, List.set_cons_succ, Nat.zero_add, Nat.reduceAdd] at hK ⊢
        rw [if_pos (by rfl)]
        go_simp
        exact hK _ _ (Below.refl _ _) rfl
      · refine @id (StepG _ _ _ _ _ _ _ _ _ _ _) ?_
        intro nst ys wx hn hmay hw hS hd
        intro K hK
        have e4 : ys 4 = _ := hd 4 (by decide)
        have e5 : ys 5 = _ := hd 5 (by decide)
        simp only [putL, Act.put, List.setIfInBounds_toArray, List.set_cons_zero, List.set_cons_succ, Nat.zero_add, Nat.reduceAdd, e4, e5] at hK ⊢
        rw [if_pos (by rfl)]
        go_simp
        exact hK _ _ (Below.refl _ _) rfl
      · refine @id (StepG _ _ _ _ _ _ _ _ _ _ _) ?_
        intro nst ys wx hn hmay hw hS hd
        obtain rfl : nst = 0 := may_one hmay hn (by kernel_rfl)
        intro K hK
        have e6 : ys 6 = _ := hd 6 (by decide)
        simp only [putL, Act.put, List.setIfInBounds_toArray, List.set_cons_zero, List.set_cons_succ, Nat.zero_add, Nat.reduceAdd, e6] at hK ⊢
        rw [if_pos (by rfl)]
        have kx := (hS.2.1 rfl).2
        go_simp
        exact hK _ _ (Below.refl _ _) rfl
      · refine @id (StepG _ _ _ _ _ _ _ _ _ _ _) ?_
        intro nst ys wx hn hmay hw hS hd
        intro K hK
        simp only [putL, Act.put, List.setIfInBounds_toArray, List.set_cons_zero, List.set_cons_succ, Nat.zero_add, Nat.reduceAdd] at hK ⊢
        rw [if_pos (by rfl)]
        go_simp
        exact hK _ _ (Below.refl _ _) rfl
      · refine @id (StepG _ _ _ _ _ _ _ _ _ _ _) ?_
        intro nst ys wx hn hmay hw hS hd
        intro K hK
        simp only [putL, Act.put, List.setIfInBounds_toArray, List.set_cons_zero, List.set_cons_succ, Nat.zero_add, Nat.reduceAdd] at hK ⊢
        rw [if_pos (by rfl)]
        go_simp
        exact hK _ _ (Below.refl _ _) rfl
      · refine @id (StepG _ _ _ _ _ _ _ _ _ _ _) ?_
        intro nst ys wx hn hmay hw hS hd
        intro K hK
        have e8 : ys 8 = _ := hd 8 (by decide)
        have e9 : ys 9 = _ := hd 9 (by decide)
        simp only [putL, Act.put, List.setIfInBounds_toArray, List.set_cons_zero, List.set_cons_succ, Nat.zero_add, Nat.reduceAdd, e8, e9] at hK ⊢
        rw [if_pos (by rfl)]
        go_simp
        exact hK _ _ (Below.refl _ _) rfl
      · refine @id (StepG _ _ _ _ _ _ _ _ _ _ _) ?_
        intro nst ys wx hn hmay hw hS hd
        obtain rfl : nst = 0 := may_one hmay hn (by kernel_rfl)
        intro K hK
        have e10 : ys 10 = _ := hd 10 (by decide)
        simp only [putL, Act.put, List.setIfInBounds_toArray, List.set_cons_zero, List.set_cons_succ, Nat.zero_add, Nat.reduceAdd, e10] at hK ⊢
        rw [if_pos (by rfl)]
        have kx := (hS.2.1 rfl).1
        go_simp
        exact hK _ _ (Below.refl _ _) rfl
      · refine @id (StepG _ _ _ _ _ _ _ _ _ _ _) ?_
        intro nst ys wx hn hmay hw hS hd
        intro K hK
        have e0 : ys 0 = _ := hd 0 (by decide)
        have e1 : ys 1 = _ := hd 1 (by decide)
        simp only [putL, Act.put, List.setIfInBounds_toArray, List.set_cons_zero, List.set_cons_succ, Nat.zero_add, Nat.reduceAdd, e0, e1] at hK ⊢
        rw [if_pos (by rfl)]
        go_simp
        exact hK _ _ (Below.refl _ _) rfl
      · refine @id (StepS _ _ _ _ _ _ _ _ _ _ _) ?_
        intro ys wx hw hS hd K hK
        have e7 : ys 7 = _ := hd 7 (by decide)
        have e12 : ys 12 = _ := hd 12 (by decide)
        simp only [putL, Act.put, List.setIfInBounds_toArray, List.set_cons_zero, List.set_cons_succ, Nat.zero_add, Nat.reduceAdd, e7, e12] at hK ⊢
        rw [if_pos (by rfl)]
        have hS0 : Bld RdB 22 wx w4.heap.size (fun _ => True) (.slice (some ⟨g, 0, none⟩) 4 c5) D := hS.1
        obtain ⟨u, hu, hfz, _⟩ := hS0.at_ hxD
        have hset := hS0.set_ okB hxD (u := .slice Ay ly.length cy) (x := ly) hS.2.2.2
        have f1 := okB.setc hS.2.2.1 (b := g) (j := x) (v := .slice Ay ly.length cy) (fun k hk => hk.1)
        have f2 := okB.setc hS.2.2.2 (b := g) (j := x) (v := .slice Ay ly.length cy) (fun k hk => hk.1)
        have hbs := (Below.refl w4.heap.size wx).setCell (p := ⟨g, x, none⟩) hg0 (.slice Ay ly.length cy)
        go_simp
        exact hK undef _ hbs ⟨hset, fun h => absurd h (by decide), f1, f2⟩ trivial ⟨fun _ h => h, fun _ h => h, fun _ h => h, fun _ h => h, fun _ h => h, fun _ h => h, fun _ h => h, fun _ h => h, fun _ h => h, fun _ h => h, fun _ h => h, fun _ h => h, fun _ h => h, fun _ h => h, fun _ h => h, fun _ h => h, trivial⟩
      · refine @id (StepG _ _ _ _ _ _ _ _ _ _ _) ?_
        intro nst ys wx hn hmay hw hS hd
        intro K hK
        have e2 : ys 2 = _ := hd 2 (by decide)
        have e3 : ys 3 = _ := hd 3 (by decide)
        simp only [putL, Act.put, List.setIfInBounds_toArray, List.set_cons_zero, List.set_cons_succ, Nat.zero_add, Nat.reduceAdd, e2, e3] at hK ⊢
        rw [if_pos (by rfl)]
        go_simp
        exact hK _ _ (Below.refl _ _) rfl
      · refine @id (StepS _ _ _ _ _ _ _ _ _ _ _) ?_
        intro ys wx hw hS hd K hK
        have e11 : ys 11 = _ := hd 11 (by decide)
        have e14 : ys 14 = _ := hd 14 (by decide)
        simp only [putL, Act.put, List.setIfInBounds_toArray, List.set_cons_zero, List.set_cons_succ, Nat.zero_add, Nat.reduceAdd, e11, e14] at hK ⊢
        rw [if_pos (by rfl)]
        have hS0 : Bld RdB 22 wx w4.heap.size (fun _ => True) (.slice (some ⟨g, 0, none⟩) 4 c5) (D.set x ly) := hS.1
        have hml2 : y < (D.set x ly).length := by rw [List.length_set]; exact hyD
        obtain ⟨u, hu, hfz, _⟩ := hS0.at_ hml2
        have hset := hS0.set_ okB hml2 (u := .slice Ax lx.length cx) (x := lx) hS.2.2.1
        have f1 := okB.setc hS.2.2.1 (b := g) (j := y) (v := .slice Ax lx.length cx) (fun k hk => hk.1)
        have f2 := okB.setc hS.2.2.2 (b := g) (j := y) (v := .slice Ax lx.length cx) (fun k hk => hk.1)
        have hbs := (Below.refl w4.heap.size wx).setCell (p := ⟨g, y, none⟩) hg0 (.slice Ax lx.length cx)
        go_simp
        exact hK undef _ hbs ⟨hset, fun h => absurd h (by decide), f1, f2⟩ trivial ⟨fun _ h => h, fun _ h => h, fun _ h => h, fun _ h => h, fun _ h => h, fun _ h => h, fun _ h => h, fun _ h => h, fun _ h => h, fun _ h => h, fun _ h => h, fun _ h => h, fun _ h => h, fun _ h => h, fun _ h => h, fun _ h => h, trivial⟩
    · intro ys w' hl' hS' hV
      clear hV
      simp only [putL, Act.put, List.setIfInBounds_toArray, List.set_cons_zero, List.set_cons_succ, Nat.zero_add, Nat.reduceAdd]
      rename World => w7
      have hset : Bld RdB 22 w7 w4.heap.size (fun _ => True) (.slice (some ⟨g, 0, none⟩) 4 c5) ((D.set x ly).set y lx) := hS'.1
      rw [← HPW.out] at hset
      have HE := Lib.hid hset
      have HB7 := Lib.hid hl'
      clear hset hl' hS' q0 q1 q2 q3 q4 q5 HUX HUY HRX HRY
      go_wp2_with fail
      obtain ⟨r, hr⟩ : ∃ r, 3 - s = r := ⟨_, rfl⟩
      have hr4 : r < 4 := by omega
      rw [hr] at HPD
      refine (plan_Spare s _ (by omega) (by omega)).mono ?_
      rintro e wS ⟨rfl, hwS⟩
      subst hwS
      rw [show (3 : Int) - (s : Int) % 4 = (r : Int) by omega]
      have hr4' : r < (planE D d).length := by rw [HEL.out]; exact hr4
      have hset := HE.out.set_ okB hr4' (u := .slice none 0 0) (x := []) (RdL.nil_ _ _ _ _ _ (by decide))
      obtain ⟨_, hu7, hfz7, -⟩ := HE.out.at_ hr4'
      have hbs := (HB7.out).setCell (p := ⟨g, r, none⟩) hg0 (.slice none 0 0)
      obtain ⟨w8, hw8⟩ : ∃ w8, w7.setCell ⟨g, r, none⟩ (.slice none 0 0) = w8 := ⟨_, rfl⟩
      rw [hw8] at hset hbs
      have hs8 : w4.heap.size ≤ w8.heap.size := by
        have h1 := hbs.size
        omega
      have HQ8 := Lib.hid hset
      have HB8 := Lib.hid hbs
      have q0 : (0 : Int) ≤ r := by omega
      have q1 : (r : Int) < 4 := by omega
      have q2 : (r : Int).toNat = r := by omega
      clear hset hbs HE HB7 hr
      go_wp2_with fail
      clear hw8 hu7 hfz7
      have p1 : r ≤ c5 := by omega
      have p2 : r + 1 ≤ 4 := by omega
      have p3 : IntKind.i64.wrap ((r : Int) + 1) = (r : Int) + 1 := IntWalk.i64_in _ (by omega)
      have p4 : ((r : Int) + 1).toNat = r + 1 := by omega
      have p5 : (r : Int) ≤ c5 := by omega
      have p6 : (r : Int) + 1 ≤ 4 := by omega
      have p7 : (0 : Int) ≤ (r : Int) + 1 := by omega
      have p8 : 4 ≤ c5 := by omega
      have p9 : 4 - (r + 1) = 3 - r := by omega
      refine region_three (w4.heap.size) [Ck (.slice (some ⟨g, 0, none⟩) 4 c5), Ck (.int .i64 r), Ck (.slice (some ⟨g, 0, none⟩) 4 c5), Ck (.int .i64 r), Ck (.slice (some ⟨g, 0, none⟩) r c5), Ck (.slice (some ⟨g, 0, none⟩) 4 c5), Ck (.int .i64 r), Ck (.int .i64 ((r : Int) + 1)), Ck (.slice (if c5 = r + 1 then some ⟨g, 0, none⟩ else some ⟨g, r + 1, none⟩) (3 - r) (c5 - (r + 1))), Ek 0 (Rv RdBBB [((planE D d).set r []).take r, ((planE D d).set r []).drop (r + 1)]), Ek 0 (Rv RdBB ((planE D d).eraseIdx r)), Ek 0 (Rn RdB g (xorAll ((planE D d).eraseIdx r))), Ck (.pointer (some ⟨g, r, none⟩)), Tk] (fun q wx => Bld RdB 22 wx w4.heap.size (fun _ => True) (.slice (some ⟨g, 0, none⟩) 4 c5) (if q = 0 then (planE D d).set r [] else planData D d)) [13] (by kernel_rfl) (by kernel_rfl) (by kernel_rfl) (by kernel_rfl) (by kernel_rfl) ?_ ?_ (fun q w w' hb h => h.grow okB hb) (HQ8.out) ?_ ?_
      · first | exact Nat.le_refl _ | assumption | omega
      · repeat (first | exact trivial | refine ⟨mCk _, ?_⟩ | refine ⟨mTk, ?_⟩ | refine ⟨mEk _ (by first | exact mC _ | exact mT | exact mR okB _ | exact mR okBB _ | exact mR okBBB _ | exact mRn okB _ _ | exact mRn okBB _ _ | exact mOw _ _ _ _ | exact mRm okB _ _ _ | exact mRa _ _ | exact mRg okROW _ _ | exact mRg okROWS _ _ | exact mRf okDISKS _ _ | exact mRg okCELL _ _ | exact mRg okBB _ _ | exact mRg okB _ _ | exact mRg okIs _ _ | exact mRi _ _ | exact mOx _ _), ?_⟩ | refine ⟨mFk _ (by first | exact mC _ | exact mT | exact mR okB _ | exact mR okBB _ | exact mR okBBB _ | exact mRn okB _ _ | exact mRn okBB _ _ | exact mOw _ _ _ _ | exact mRm okB _ _ _ | exact mRa _ _ | exact mRg okROW _ _ | exact mRg okROWS _ _ | exact mRf okDISKS _ _ | exact mRg okCELL _ _ | exact mRg okBB _ _ | exact mRg okB _ _ | exact mRg okIs _ _ | exact mRi _ _ | exact mOx _ _), ?_⟩ | refine ⟨fun _ => (by first | exact mC _ | exact mT | exact mR okB _ | exact mR okBB _ | exact mR okBBB _ | exact mRn okB _ _ | exact mRn okBB _ _ | exact mOw _ _ _ _ | exact mRm okB _ _ _ | exact mRa _ _ | exact mRg okROW _ _ | exact mRg okROWS _ _ | exact mRf okDISKS _ _ | exact mRg okCELL _ _ | exact mRg okBB _ _ | exact mRg okB _ _ | exact mRg okIs _ _ | exact mRi _ _ | exact mOx _ _), ?_⟩)
      · simp only [StepsL3]
        refine ⟨?_, ?_, ?_, ?_, ?_, ?_, ?_, ?_, ?_, ?_, ?_, ?_, ?_, ?_, trivial⟩
        · refine @id (StepG _ _ _ _ _ _ _ _ _ _ _) ?_
          intro nst ys wx hn hmay hw hS hd
          intro K hK
          simp only [putL, Act.put, List.setIfInBounds_toArray, List.set_cons_zero, List.set_cons_succ, Nat.zero_add, Nat.reduceAdd] at hK ⊢
          rw [if_pos (by rfl)]
          go_simp
          exact hK _ _ (Below.refl _ _) rfl
        · refine @id (StepG _ _ _ _ _ _ _ _ _ _ _) ?_
          intro nst ys wx hn hmay hw hS hd
          intro K hK
          simp only [putL, Act.put, List.setIfInBounds_toArray, List.set_cons_zero, List.set_cons_succ, Nat.zero_add, Nat.reduceAdd] at hK ⊢
          rw [if_pos (by rfl)]
          go_simp
          exact hK _ _ (Below.refl _ _) rfl
        · refine @id (StepG _ _ _ _ _ _ _ _ _ _ _) ?_
          intro nst ys wx hn hmay hw hS hd
          intro K hK
          simp only [putL, Act.put, List.setIfInBounds_toArray, List.set_cons_zero, List.set_cons_succ, Nat.zero_add, Nat.reduceAdd] at hK ⊢
          rw [if_pos (by rfl)]
          go_simp
          exact hK _ _ (Below.refl _ _) rfl
        · refine @id (StepG _ _ _ _ _ _ _ _ _ _ _) ?_
          intro nst ys wx hn hmay hw hS hd
          intro K hK
          simp only [putL, Act.put, List.setIfInBounds_toArray, List.set_cons_zero, List.set_cons_succ, Nat.zero_add, Nat.reduceAdd] at hK ⊢
          rw [if_pos (by rfl)]
          go_simp
          exact hK _ _ (Below.refl _ _) rfl
        · refine @id (StepG _ _ _ _ _ _ _ _ _ _ _) ?_
          intro nst ys wx hn hmay hw hS hd
          intro K hK
          have e2 : ys 2 = _ := hd 2 (by decide)
          have e3 : ys 3 = _ := hd 3 (by decide)
          simp only [putL, Act.put, List.setIfInBounds_toArray, List.set_cons_zero, List.set_cons_succ, Nat.zero_add, Nat.reduceAdd, e2, e3] at hK ⊢
          rw [if_pos (by rfl)]
          go_simp
          exact hK _ _ (Below.refl _ _) rfl
        · refine @id (StepG _ _ _ _ _ _ _ _ _ _ _) ?_
          intro nst ys wx hn hmay hw hS hd
          intro K hK
          simp only [putL, Act.put, List.setIfInBounds_toArray, List.set_cons_zero, List.set_cons_succ, Nat.zero_add, Nat.reduceAdd] at hK ⊢
          rw [if_pos (by rfl)]
          go_simp
          exact hK _ _ (Below.refl _ _) rfl
        · refine @id (StepG _ _ _ _ _ _ _ _ _ _ _) ?_
          intro nst ys wx hn hmay hw hS hd
          intro K hK
          simp only [putL, Act.put, List.setIfInBounds_toArray, List.set_cons_zero, List.set_cons_succ, Nat.zero_add, Nat.reduceAdd] at hK ⊢
          rw [if_pos (by rfl)]
          go_simp
          exact hK _ _ (Below.refl _ _) rfl
        · refine @id (StepG _ _ _ _ _ _ _ _ _ _ _) ?_
          intro nst ys wx hn hmay hw hS hd
          intro K hK
          have e6 : ys 6 = _ := hd 6 (by decide)
          simp only [putL, Act.put, List.setIfInBounds_toArray, List.set_cons_zero, List.set_cons_succ, Nat.zero_add, Nat.reduceAdd, e6] at hK ⊢
          rw [if_pos (by rfl)]
          go_simp
          exact hK _ _ (Below.refl _ _) rfl
        · refine @id (StepG _ _ _ _ _ _ _ _ _ _ _) ?_
          intro nst ys wx hn hmay hw hS hd
          intro K hK
          have e5 : ys 5 = _ := hd 5 (by decide)
          have e7 : ys 7 = _ := hd 7 (by decide)
          simp only [putL, Act.put, List.setIfInBounds_toArray, List.set_cons_zero, List.set_cons_succ, Nat.zero_add, Nat.reduceAdd, e5, e7] at hK ⊢
          rw [if_pos (by rfl)]
          go_simp
          exact hK _ _ (Below.refl _ _) rfl
        · refine @id (StepG _ _ _ _ _ _ _ _ _ _ _) ?_
          intro nst ys wx hn hmay hw hS hd
          obtain rfl : nst = 0 := may_one hmay hn (by kernel_rfl)
          intro K hK
          have e4 : ys 4 = _ := hd 4 (by decide)
          have e8 : ys 8 = _ := hd 8 (by decide)
          simp only [putL, Act.put, List.setIfInBounds_toArray, List.set_cons_zero, List.set_cons_succ, Nat.zero_add, Nat.reduceAdd, e4, e8] at hK ⊢
          rw [if_pos (by rfl)]
          have hS0 : Bld RdB 22 wx w4.heap.size (fun _ => True) (.slice (some ⟨g, 0, none⟩) 4 c5) ((planE D d).set r []) := hS
          obtain ⟨h1, h2⟩ := parts_rd (hS0.toRd_ okB) hr4
          have ha := RdL.two_ okBB (okBB.mono h1 (F' := fun k => k < wx.heap.size + 1) fun k hk => Nat.lt_succ_of_lt hk) (okBB.mono h2 (F' := fun k => k < wx.heap.size + 1) fun k hk => Nat.lt_succ_of_lt hk) 38 (Nat.lt_succ_self _)
          go_simp
          exact hK _ _ (below_alloc _ _) (okBBB.mono ha fun k hk => by rw [alloc_size]; exact hk)
        · refine @id (StepG _ _ _ _ _ _ _ _ _ _ _) ?_
          intro nst ys wx hn hmay hw hS hd
          obtain rfl : nst = 0 := may_one hmay hn (by kernel_rfl)
          intro K hK
          have k9 := hd 9 (by decide)
          change (Rv RdBBB [((planE D d).set r []).take r, ((planE D d).set r []).drop (r + 1)]) wx (ys 9) at k9
          simp only [putL, Act.put, List.setIfInBounds_toArray, List.set_cons_zero, List.set_cons_succ, Nat.zero_add, Nat.reduceAdd] at hK ⊢
          rw [if_pos (by rfl)]
          have k9' : RdBBB wx (fun k => k < wx.heap.size) (ys 9) [((planE D d).set r []).take r, ((planE D d).set r []).drop (r + 1)] := k9
          obtain ⟨A9, c9, hy9, _, _⟩ := k9'.shape
          rw [hy9] at k9'
          simp only [hy9] at hK ⊢
          clear k9 hy9
          have hlen : (((planE D d).set r []).take r).length + (((planE D d).set r []).drop (r + 1)).length = 3 := by
            have := HEL.out
            rw [List.length_take, List.length_drop, List.length_set]
            omega
          have hpart := set_parts (planE D d) r [] hr4'
          go_simp
          refine (slices_ConcatB _ _ _ _ _ k9' hlen).mono ?_
          rintro e w' ⟨v', rfl, hv', hb'⟩
          rw [hpart] at hv'
          exact hK _ _ hb' (okBB.mono (okBB.lt hv') fun k hk => hk.2)
        · refine @id (StepG _ _ _ _ _ _ _ _ _ _ _) ?_
          intro nst ys wx hn hmay hw hS hd
          obtain rfl : nst = 0 := may_one hmay hn (by kernel_rfl)
          intro K hK
          have k10 := hd 10 (by decide)
          change (Rv RdBB ((planE D d).eraseIdx r)) wx (ys 10) at k10
          simp only [putL, Act.put, List.setIfInBounds_toArray, List.set_cons_zero, List.set_cons_succ, Nat.zero_add, Nat.reduceAdd] at hK ⊢
          rw [if_pos (by rfl)]
          have k10' : RdBB wx (fun k => k < wx.heap.size) (ys 10) ((planE D d).eraseIdx r) := k10
          obtain ⟨A10, c10, hy10, _, _⟩ := k10'.shape
          rw [hy10] at k10'
          simp only [hy10] at hK ⊢
          clear k10 hy10
          have hS0 : Bld RdB 22 wx w4.heap.size (fun _ => True) (.slice (some ⟨g, 0, none⟩) 4 c5) ((planE D d).set r []) := hS
          have hgx := (hS0.blk g rfl).2
          have h4e : Blocks4 ((planE D d).eraseIdx r) := fun b hb => HPB.out b (List.mem_of_mem_eraseIdx hb)
          go_simp
          refine (xor_All _ _ _ _ k10' h4e).mono ?_
          rintro e w' ⟨v', rfl, hv', hb'⟩
          exact hK _ _ hb' (okB.lt ((hv'.bytes (G' := fun k => wx.heap.size ≤ k)).toRd ok8 (F := fun k => wx.heap.size ≤ k) (fun k hk => hk) (fun k hk => hk)) |> fun h => okB.mono h fun k hk => ⟨by omega, hk.2⟩)
        · refine @id (StepG _ _ _ _ _ _ _ _ _ _ _) ?_
          intro nst ys wx hn hmay hw hS hd
          intro K hK
          have e0 : ys 0 = _ := hd 0 (by decide)
          have e1 : ys 1 = _ := hd 1 (by decide)
          simp only [putL, Act.put, List.setIfInBounds_toArray, List.set_cons_zero, List.set_cons_succ, Nat.zero_add, Nat.reduceAdd, e0, e1] at hK ⊢
          rw [if_pos (by rfl)]
          go_simp
          exact hK _ _ (Below.refl _ _) rfl
        · refine @id (StepS _ _ _ _ _ _ _ _ _ _ _) ?_
          intro ys wx hw hS hd K hK
          have k11 := hd 11 (by decide)
          change (Rn RdB g (xorAll ((planE D d).eraseIdx r))) wx (ys 11) at k11
          have e12 : ys 12 = _ := hd 12 (by decide)
          simp only [putL, Act.put, List.setIfInBounds_toArray, List.set_cons_zero, List.set_cons_succ, Nat.zero_add, Nat.reduceAdd, e12] at hK ⊢
          rw [if_pos (by rfl)]
          have hS0 : Bld RdB 22 wx w4.heap.size (fun _ => True) (.slice (some ⟨g, 0, none⟩) 4 c5) ((planE D d).set r []) := hS
          have k11' : RdB wx (fun k => k ≠ g ∧ k < wx.heap.size) (ys 11) (xorAll ((planE D d).eraseIdx r)) := k11
          obtain ⟨A11, c11, hy11, _, _⟩ := k11'.shape
          rw [hy11] at k11'
          simp only [hy11] at hK ⊢
          clear k11 hy11
          have hr5 : r < ((planE D d).set r []).length := by rw [List.length_set]; exact hr4'
          obtain ⟨u, hu, hfz, _⟩ := hS0.at_ hr5
          have hset := hS0.set_ okB hr5 (okB.mono k11' fun k hk => ⟨hk.1, trivial⟩)
          rw [List.set_set, HPD.out] at hset
          have hbs := (Below.refl w4.heap.size wx).setCell (p := ⟨g, r, none⟩) hg0 (.slice A11 (xorAll ((planE D d).eraseIdx r)).length c11)
          go_simp
          exact hK undef _ hbs hset trivial ⟨fun _ h => h, fun _ h => h, fun _ h => h, fun _ h => h, fun _ h => h, fun _ h => h, fun _ h => h, fun _ h => h, fun _ h => h, fun _ _ => trivial, fun _ _ => trivial, fun _ _ => trivial, fun _ h => h, fun _ h => h, trivial⟩
      · intro ys w' hl' hS' hV
        clear hV
        simp only [putL, Act.put, List.setIfInBounds_toArray, List.set_cons_zero, List.set_cons_succ, Nat.zero_add, Nat.reduceAdd]
        rename World => w9
        have hfin : Bld RdB 22 w9 w4.heap.size (fun _ => True) (.slice (some ⟨g, 0, none⟩) 4 c5) (planData D d) := hS'
        have HB9 := Lib.hid (HB8.out.trans hl')
        have HF9 := Lib.hid hfin
        clear hfin hS' hl' p1 p2 p3 p4 p5 p6 p7 p8 p9 q0 q1 q2 hr4' HQ8 HB8
        go_wp2_with fail
        refine (stripe_Make (planData D d) s _ _ _ (HF9.out.toRd_ okB) (by omega) (by rw [HPE.out.1]; decide) HPE.out.2.1).mono ?_
        rintro e w13 ⟨v13, rfl, hv13, hb13⟩
        have hr13 := hv13.toRd okB (R' := RdB) (fun h => h) okB
        obtain ⟨A13, c13, rfl, _, _⟩ := hr13.shape
        have hs59 := HB9.out.size
        have hZ13 := (HZ5.out.keep HB9.out hs4).grow hb13
        obtain ⟨z0, z1, z2, z3⟩ := hZ13.two
        have hB13 := (HB5.out.trans (HB9.out.mono (by omega))).trans (hb13.mono (by omega))
        have hr14 : RdBB (set2 w13 (w.heap.size + 1 + 1) (.int .i64 s) (.slice A13 (makeL (planData D d) s).length c13)) _ _ _ := okBB.set2 hr13 (b := w.heap.size + 1 + 1) fun k hk => by omega
        have hb14 := hB13.trans (below_set2 (b := w.heap.size + 1 + 1) (v0 := .int .i64 s) (v1 := .slice A13 (makeL (planData D d) s).length c13) (by omega))
        have HF := Lib.hid (And.intro (okBB.mono hr14 (F' := fun k => w.heap.size ≤ k) fun k hk => by omega) hb14)
        clear hr14 hb14 hr13 hv13 hb13 hZ13 hB13
        go_wp2_with fail
        exact bodyPost_ret (v := .tuple #[.agg #[.int .i64 s, .slice A13 (makeL (planData D d) s).length c13], .int .i64 0]) (by simp [results, Tryd.results35, go_sem, *]) rfl (by rw [HP.out]; exact ⟨_, rfl, ⟨_, rfl, HF.out.1⟩, HF.out.2⟩)
end Go.Proofs.YtdcmbdghnkgghaaDoor

/- Chapter 11: what play.Do computes: the walk. -/
import Derived.Test.YtdcmbdghnkgghaaDoorC21
namespace Go.Proofs.YtdcmbdghnkgghaaDoor
set_option linter.unusedVariables false
open Go Go.RowKit M
theorem write_intsOk {a : Arr} (h : a.ints = []) {i : Int × List Bs} (hi : IntOk i) (n : Int) : IntsOk (writeA a i n) := by
  unfold IntsOk
  rw [write_eq]
  dsimp only
  split
  · exact .inl rfl
  · split
    · exact .inr ⟨i, rfl, hi⟩
    · exact .inl h
set_option maxRecDepth 100000 in
set_option maxHeartbeats 1600000 in
theorem play_Do_deed (a : Arr) (s : Step) (v vs : Value) (F : Fp) {F2 : Fp} (w : World) (h : RdA w F v a) (hs : RdSt w F2 vs s) (hsh : Shape a.disks) (hno : a.ints = []) (hlo : -9223372036854775808 ≤ s.n) (hk : s.kind = 1) :
    Calls Tryd.prog 18 #[v, vs] w fun e w' => ∃ v', e = .returned (.tuple #[v', .int .i64 (stepP a s).2]) ∧ RdA w' (fun k => w.heap.size ≤ k) v' (stepP a s).1 ∧ Below w.heap.size w w' := by
  obtain ⟨b0, o0, c0, Ai, ci, rfl, hD, hI, hc0, hc1⟩ := RdA_open h hsh
  obtain ⟨dv, rfl, hsn, hdv⟩ := hs
  replace hdv := okB.lt hdv
  obtain ⟨Ad, cd, rfl, _, _⟩ := hdv.shape
  obtain ⟨w1, hW, hA, hX, hZ, hB, hsz⟩ := boxes3 w [.slice (some ⟨b0, o0, none⟩) 4 c0, .slice Ai a.ints.length ci] [.int .i64 s.kind, .int .i64 s.n, .int .i64 s.m, .int .i64 s.deed.kind, .int .i64 s.deed.n, .int .i64 s.deed.m, .slice Ad s.deed.data.length cd] [.slice none 0 0, .slice none 0 0] 37 44 37
  change (((w.alloc (.cells #[.slice (some ⟨b0, o0, none⟩) 4 c0, .slice Ai a.ints.length ci] 37)).alloc (.cells #[.int .i64 s.kind, .int .i64 s.n, .int .i64 s.m, .int .i64 s.deed.kind, .int .i64 s.deed.n, .int .i64 s.deed.m, .slice Ad s.deed.data.length cd] 44)).alloc (.cells #[.slice none 0 0, .slice none 0 0] 37)) = w1 at hW
  have HP := Lib.hid (show stepP a s = doA a s.deed by unfold stepP stepK; rw [if_pos hk])
  rw [hk] at hX hW ⊢
  have hAr : RdA w1 (fun k => F k ∧ k < w.heap.size ∨ w.heap.size + 3 ≤ k) (.agg #[.slice (some ⟨b0, o0, none⟩) 4 c0, .slice Ai a.ints.length ci]) a := ⟨_, _, rfl, okBBB.mono (okBBB.grow hD hB) fun _ hk => .inl hk, okIs.mono (okIs.grow hI hB) fun _ hk => .inl hk⟩
  have hdd : RdD w1 (fun k => F2 k ∧ k < w.heap.size) (.agg #[.int .i64 s.deed.kind, .int .i64 s.deed.n, .int .i64 s.deed.m, .slice Ad s.deed.data.length cd]) s.deed := ⟨_, rfl, okB.grow hdv hB⟩
  have HSZ := Lib.hid hsz
  have HS := Lib.hid hsh
  have HNO := Lib.hid hno
  have HA := Lib.hid hA
  have HX := Lib.hid hX
  have HZ := Lib.hid hZ
  have HB := Lib.hid hB
  have HAr := Lib.hid hAr
  have HDD := Lib.hid hdd
  obtain ⟨x0, x1, x2, x3⟩ := hA.two
  obtain ⟨y0, y1, y2, y3, y4, y5, y6⟩ := hX.seven
  clear hsz hsh h hA hX hZ hB hAr hdd hdv hD hI hno
  go_enter Tryd.func18, Tryd.ntmps18
  go_wp2_with fail
  clear hW
  refine (array_Do a s.deed _ _ _ _ HAr.out HDD.out HS.out (.inl HNO.out)).mono ?_
  rintro e w2 ⟨v2, rfl, hr2, hb2⟩
  have hsh2 := doA_shape HS.out s.deed
  obtain ⟨b5, o5, c5, A5, c6, rfl, _, _, _, _⟩ := RdA_open hr2 hsh2
  have hZ2 := HZ.out.grow hb2
  obtain ⟨z0, z1, z2, z3⟩ := hZ2.two
  have H := Lib.hid (ret_box (F' := fun k => w.heap.size ≤ k) hZ2 (HB.out.trans (hb2.mono HB.out.size)) (by omega) hr2 (fun k hk => by have := HSZ.out; omega) fun k hk => by have := HSZ.out; omega)
  clear hZ2 hb2 hr2 hsh2
  go_wp2_with fail
  exact bodyPost_ret (v := .tuple #[.agg #[.slice (some ⟨b5, o5, none⟩) 4 c5, .slice A5 (doA a s.deed).1.ints.length c6], .int .i64 (doA a s.deed).2]) (by simp [results, Tryd.results18, go_sem, *]) rfl (by rw [HP.out]; exact ⟨_, rfl, H.out.1, H.out.2⟩)
set_option maxRecDepth 100000 in
set_option maxHeartbeats 1600000 in
theorem play_Do_fall (a : Arr) (s : Step) (v vs : Value) (F : Fp) {F2 : Fp} (w : World) (h : RdA w F v a) (hs : RdSt w F2 vs s) (hsh : Shape a.disks) (hno : a.ints = []) (hlo : -9223372036854775808 ≤ s.n) (hk : s.kind = 2) :
    Calls Tryd.prog 18 #[v, vs] w fun e w' => ∃ v', e = .returned (.tuple #[v', .int .i64 (stepP a s).2]) ∧ RdA w' (fun k => w.heap.size ≤ k) v' (stepP a s).1 ∧ Below w.heap.size w w' := by
  obtain ⟨b0, o0, c0, Ai, ci, rfl, hD, hI, hc0, hc1⟩ := RdA_open h hsh
  obtain ⟨dv, rfl, hsn, hdv⟩ := hs
  replace hdv := okB.lt hdv
  obtain ⟨Ad, cd, rfl, _, _⟩ := hdv.shape
  obtain ⟨w1, hW, hA, hX, hZ, hB, hsz⟩ := boxes3 w [.slice (some ⟨b0, o0, none⟩) 4 c0, .slice Ai a.ints.length ci] [.int .i64 s.kind, .int .i64 s.n, .int .i64 s.m, .int .i64 s.deed.kind, .int .i64 s.deed.n, .int .i64 s.deed.m, .slice Ad s.deed.data.length cd] [.slice none 0 0, .slice none 0 0] 37 44 37
  change (((w.alloc (.cells #[.slice (some ⟨b0, o0, none⟩) 4 c0, .slice Ai a.ints.length ci] 37)).alloc (.cells #[.int .i64 s.kind, .int .i64 s.n, .int .i64 s.m, .int .i64 s.deed.kind, .int .i64 s.deed.n, .int .i64 s.deed.m, .slice Ad s.deed.data.length cd] 44)).alloc (.cells #[.slice none 0 0, .slice none 0 0] 37)) = w1 at hW
  have HPB := Lib.hid (show (planA a.disks s.deed).2 ≠ 0 → stepP a s = (a, (planA a.disks s.deed).2) by intro h; unfold stepP stepK; rw [if_neg (by omega), if_pos hk, if_pos h])
  have HPG := Lib.hid (show (planA a.disks s.deed).2 = 0 → stepP a s = (mountA (writeA a (planA a.disks s.deed).1 s.n), 0) by intro h; unfold stepP stepK; rw [if_neg (by omega), if_pos hk, if_neg (by simpa using h)]; rfl)
  rw [hk] at hX hW ⊢
  have hAr : RdA w1 (fun k => F k ∧ k < w.heap.size ∨ w.heap.size + 3 ≤ k) (.agg #[.slice (some ⟨b0, o0, none⟩) 4 c0, .slice Ai a.ints.length ci]) a := ⟨_, _, rfl, okBBB.mono (okBBB.grow hD hB) fun _ hk => .inl hk, okIs.mono (okIs.grow hI hB) fun _ hk => .inl hk⟩
  have hdd : RdD w1 (fun k => F2 k ∧ k < w.heap.size) (.agg #[.int .i64 s.deed.kind, .int .i64 s.deed.n, .int .i64 s.deed.m, .slice Ad s.deed.data.length cd]) s.deed := ⟨_, rfl, okB.grow hdv hB⟩
  have HSZ := Lib.hid hsz
  have HS := Lib.hid hsh
  have HNO := Lib.hid hno
  have HA := Lib.hid hA
  have HX := Lib.hid hX
  have HZ := Lib.hid hZ
  have HB := Lib.hid hB
  have HAr := Lib.hid hAr
  have HDD := Lib.hid hdd
  obtain ⟨x0, x1, x2, x3⟩ := hA.two
  obtain ⟨y0, y1, y2, y3, y4, y5, y6⟩ := hX.seven
  clear hsz hsh h hA hX hZ hB hAr hdd hdv hD hI hno
  go_enter Tryd.func18, Tryd.ntmps18
  go_wp2_with fail
  clear hW
  refine (array_Plan a s.deed _ _ _ _ HAr.out HDD.out HS.out).mono ?_
  rintro e w2 ⟨v2, rfl, ⟨cv, rfl, hr2⟩, hb2⟩
  obtain ⟨Ac, cc, rfl, _, _⟩ := hr2.shape
  have hal := below_alloc w2 (.cells #[.int .i64 (planA a.disks s.deed).1.1, .slice Ac (planA a.disks s.deed).1.2.length cc] 78)
  have hI3 := boxAt_new w2 78 [.int .i64 (planA a.disks s.deed).1.1, .slice Ac (planA a.disks s.deed).1.2.length cc]
  have hb3 := hb2.trans (hal.mono hb2.size)
  have hB3 := HB.out.trans (hb3.mono HB.out.size)
  have hA3 := HA.out.grow hb3
  have hX3 := HX.out.grow hb3
  have hZ3 := HZ.out.grow hb3
  have hr3 := okBB.mono (okBB.grow (okBB.lt hr2) hal) (F' := fun k => F k ∧ k < w.heap.size ∨ w.heap.size + 3 ≤ k) fun k hk => by have := HSZ.out; omega
  have hAr3 := HAr.out.grow hb3
  obtain ⟨w3, hw3⟩ : ∃ x, w2.alloc (.cells #[.int .i64 (planA a.disks s.deed).1.1, .slice Ac (planA a.disks s.deed).1.2.length cc] 78) = x := ⟨_, rfl⟩
  change BoxAt (w2.alloc (.cells #[.int .i64 (planA a.disks s.deed).1.1, .slice Ac (planA a.disks s.deed).1.2.length cc] 78)) _ _ _ at hI3
  rw [hw3] at hI3 hB3 hA3 hX3 hZ3 hr3 hAr3
  replace HA := Lib.hid hA3
  replace HX := Lib.hid hX3
  replace HB := Lib.hid hB3
  replace HZ := Lib.hid hZ3
  replace HAr := Lib.hid hAr3
  have HR3 := Lib.hid hr3
  have HI3 := Lib.hid hI3
  clear hal hI3 hb3 hB3 hA3 hX3 hZ3 hr3 hAr3 hb2 hr2 x0 x1 x2 x3 y0 y1 y2 y3 y4 y5 y6
  have hs3 := HZ.out.lt
  by_cases he : (planA a.disks s.deed).2 = 0
  · have HP := Lib.hid (HPG.out he)
    have HIO := Lib.hid (intOk_plan HS.out he)
    have i3 := HIO.out.2.2.1
    rw [he]
    clear he HPG HPB
    generalize (planA a.disks s.deed).1 = i at *
    rw [i3] at HR3 HI3 hw3 ⊢
    obtain ⟨x0, x1, x2, x3⟩ := HA.out.two
    obtain ⟨y0, y1, y2, y3, y4, y5, y6⟩ := HX.out.seven
    obtain ⟨q0, q1, q2, q3⟩ := HI3.out.two
    go_wp2_with fail
    refine (array_Write a i s.n _ _ (fun k => F k ∧ k < w.heap.size ∨ w.heap.size + 3 ≤ k) _ HAr.out ⟨_, rfl, HR3.out⟩ HS.out (.inl HNO.out) HIO.out hlo hsn).mono ?_
    rintro e w4 ⟨v4, rfl, hr4, hb4⟩
    have hsh4 : Shape (writeA a i s.n).disks := putTo_shape HS.out _ HIO.out.2.2.2 _
    have hin := write_intsOk HNO.out HIO.out s.n
    obtain ⟨b7, o7, c7, A7, c8, rfl, _, _, _, _⟩ := RdA_open hr4 hsh4
    have hr4' := hr4.mono (F' := fun k => F k ∧ k < w.heap.size ∨ w.heap.size + 3 ≤ k) fun k hk => .inr (by omega)
    clear hr4
    replace HZ := Lib.hid (HZ.out.grow hb4)
    replace HB := Lib.hid (HB.out.trans (hb4.mono HB.out.size))
    have hs4 := HZ.out.lt
    clear hb4 x0 x1 x2 x3 y0 y1 y2 y3 y4 y5 y6 q0 q1 q2 q3 HAr HA HX
    generalize writeA a i s.n = b at *
    go_wp2_with fail
    refine (array_Mount b _ _ _ hr4' hsh4 hin).mono ?_
    rintro e w2 ⟨v2, rfl, hr2, hb2⟩
    have hsh2 : Shape (mountA b).disks := mountTo_shape hsh4 (ints_ok hin) _
    clear hin
    obtain ⟨b5, o5, c5, A5, c6, rfl, _, _, _, _⟩ := RdA_open hr2 hsh2
    have hZ2 := HZ.out.grow hb2
    obtain ⟨z0, z1, z2, z3⟩ := hZ2.two
    have H := Lib.hid (ret_box (F' := fun k => w.heap.size ≤ k) hZ2 (HB.out.trans (hb2.mono HB.out.size)) (by omega) hr2 (fun k hk => by omega) fun k hk => by omega)
    clear hZ2 hb2 hr2 hsh2
    go_wp2_with fail
    exact bodyPost_ret (v := .tuple #[.agg #[.slice (some ⟨b5, o5, none⟩) 4 c5, .slice A5 (mountA b).ints.length c6], .int .i64 0]) (by simp [results, Tryd.results18, go_sem, *]) rfl (by rw [HP.out]; exact ⟨_, rfl, H.out.1, H.out.2⟩)
  · have HP := Lib.hid (HPB.out he)
    have hne : ((planA a.disks s.deed).2 != 0) = true := by simpa using he
    clear he HPG HPB
    generalize (planA a.disks s.deed).2 = q at *
    generalize (planA a.disks s.deed).1 = i at *
    obtain ⟨x0, x1, x2, x3⟩ := HA.out.two
    go_wp2_with fail
    try clear hW
    refine (array_OwnR a _ _ _ HAr.out HS.out (.inl HNO.out)).mono ?_
    rintro e w9 ⟨v9, rfl, hr9, hb9⟩
    obtain ⟨b9, o9, c9, A9, d9, rfl, _, _, _, _⟩ := RdA_open hr9 HS.out
    have hZ9 := HZ.out.grow hb9
    obtain ⟨z0, z1, z2, z3⟩ := hZ9.two
    have hs9 := HZ.out.lt
    have H := Lib.hid (ret_box (F' := fun k => w.heap.size ≤ k) hZ9 (HB.out.trans (hb9.mono HB.out.size)) (by omega) hr9 (fun k hk => by omega) fun k hk => by omega)
    clear hZ9 hb9 hr9
    go_wp2_with fail
    exact bodyPost_ret (v := .tuple #[.agg #[.slice (some ⟨b9, o9, none⟩) 4 c9, .slice A9 a.ints.length d9], .int .i64 q]) (by simp [results, Tryd.results18, go_sem, *]) rfl (by rw [HP.out]; exact ⟨_, rfl, H.out.1, H.out.2⟩)
set_option maxRecDepth 100000 in
set_option maxHeartbeats 1600000 in
theorem play_Do_rot (a : Arr) (s : Step) (v vs : Value) (F : Fp) {F2 : Fp} (w : World) (h : RdA w F v a) (hs : RdSt w F2 vs s) (hsh : Shape a.disks) (hno : a.ints = []) (hlo : -9223372036854775808 ≤ s.n) (hk : s.kind = 3) :
    Calls Tryd.prog 18 #[v, vs] w fun e w' => ∃ v', e = .returned (.tuple #[v', .int .i64 (stepP a s).2]) ∧ RdA w' (fun k => w.heap.size ≤ k) v' (stepP a s).1 ∧ Below w.heap.size w w' := by
  obtain ⟨b0, o0, c0, Ai, ci, rfl, hD, hI, hc0, hc1⟩ := RdA_open h hsh
  obtain ⟨dv, rfl, hsn, hdv⟩ := hs
  replace hdv := okB.lt hdv
  obtain ⟨Ad, cd, rfl, _, _⟩ := hdv.shape
  obtain ⟨w1, hW, hA, hX, hZ, hB, hsz⟩ := boxes3 w [.slice (some ⟨b0, o0, none⟩) 4 c0, .slice Ai a.ints.length ci] [.int .i64 s.kind, .int .i64 s.n, .int .i64 s.m, .int .i64 s.deed.kind, .int .i64 s.deed.n, .int .i64 s.deed.m, .slice Ad s.deed.data.length cd] [.slice none 0 0, .slice none 0 0] 37 44 37
  change (((w.alloc (.cells #[.slice (some ⟨b0, o0, none⟩) 4 c0, .slice Ai a.ints.length ci] 37)).alloc (.cells #[.int .i64 s.kind, .int .i64 s.n, .int .i64 s.m, .int .i64 s.deed.kind, .int .i64 s.deed.n, .int .i64 s.deed.m, .slice Ad s.deed.data.length cd] 44)).alloc (.cells #[.slice none 0 0, .slice none 0 0] 37)) = w1 at hW
  have HPB := Lib.hid (show s.n < 0 → stepP a s = (a, 6) by intro h; unfold stepP stepK; rw [if_neg (by omega), if_neg (by omega), if_pos hk, if_pos h])
  have HPG := Lib.hid (show ¬ s.n < 0 → stepP a s = rotA a (s.n / 3) (s.n % 3) s.m by intro h; unfold stepP stepK; rw [if_neg (by omega), if_neg (by omega), if_pos hk, if_neg h])
  rw [hk] at hX hW ⊢
  have hAr : RdA w1 (fun k => F k ∧ k < w.heap.size ∨ w.heap.size + 3 ≤ k) (.agg #[.slice (some ⟨b0, o0, none⟩) 4 c0, .slice Ai a.ints.length ci]) a := ⟨_, _, rfl, okBBB.mono (okBBB.grow hD hB) fun _ hk => .inl hk, okIs.mono (okIs.grow hI hB) fun _ hk => .inl hk⟩
  have hdd : RdD w1 (fun k => F2 k ∧ k < w.heap.size) (.agg #[.int .i64 s.deed.kind, .int .i64 s.deed.n, .int .i64 s.deed.m, .slice Ad s.deed.data.length cd]) s.deed := ⟨_, rfl, okB.grow hdv hB⟩
  have HSZ := Lib.hid hsz
  have HS := Lib.hid hsh
  have HNO := Lib.hid hno
  have HA := Lib.hid hA
  have HX := Lib.hid hX
  have HZ := Lib.hid hZ
  have HB := Lib.hid hB
  have HAr := Lib.hid hAr
  have HDD := Lib.hid hdd
  obtain ⟨x0, x1, x2, x3⟩ := hA.two
  obtain ⟨y0, y1, y2, y3, y4, y5, y6⟩ := hX.seven
  clear hsz hsh h hA hX hZ hB hAr hdd hdv hD hI hno
  by_cases hn : s.n < 0
  · have HP := Lib.hid (HPB.out hn)
    have hs3 := HZ.out.lt
    go_enter Tryd.func18, Tryd.ntmps18
    go_wp2_with fail
    try clear hW
    refine (array_OwnR a _ _ _ HAr.out HS.out (.inl HNO.out)).mono ?_
    rintro e w9 ⟨v9, rfl, hr9, hb9⟩
    obtain ⟨b9, o9, c9, A9, d9, rfl, _, _, _, _⟩ := RdA_open hr9 HS.out
    have hZ9 := HZ.out.grow hb9
    obtain ⟨z0, z1, z2, z3⟩ := hZ9.two
    have hs9 := HZ.out.lt
    have H := Lib.hid (ret_box (F' := fun k => w.heap.size ≤ k) hZ9 (HB.out.trans (hb9.mono HB.out.size)) (by omega) hr9 (fun k hk => by omega) fun k hk => by omega)
    clear hZ9 hb9 hr9
    go_wp2_with fail
    exact bodyPost_ret (v := .tuple #[.agg #[.slice (some ⟨b9, o9, none⟩) 4 c9, .slice A9 a.ints.length d9], .int .i64 6]) (by simp [results, Tryd.results18, go_sem, *]) rfl (by rw [HP.out]; exact ⟨_, rfl, H.out.1, H.out.2⟩)
  have HP := Lib.hid (HPG.out hn)
  clear HPB HPG
  go_enter Tryd.func18, Tryd.ntmps18
  go_wp2_with fail
  clear hW

  refine (harm_Rot a (s.n / 3) (s.n % 3) s.m _ _ _ HAr.out HS.out HNO.out).mono ?_
  rintro e w2 ⟨v2, rfl, hr2, hb2⟩
  have hsh2 := rot_shape HS.out (s.n / 3) (s.n % 3) s.m
  obtain ⟨b5, o5, c5, A5, c6, rfl, _, _, _, _⟩ := RdA_open hr2 hsh2
  have hZ2 := HZ.out.grow hb2
  obtain ⟨z0, z1, z2, z3⟩ := hZ2.two
  have H := Lib.hid (ret_box (F' := fun k => w.heap.size ≤ k) hZ2 (HB.out.trans (hb2.mono HB.out.size)) (by omega) hr2 (fun k hk => by have := HSZ.out; omega) fun k hk => by have := HSZ.out; omega)
  clear hZ2 hb2 hr2 hsh2
  go_wp2_with fail
  exact bodyPost_ret (v := .tuple #[.agg #[.slice (some ⟨b5, o5, none⟩) 4 c5, .slice A5 (rotA a (s.n / 3) (s.n % 3) s.m).1.ints.length c6], .int .i64 (rotA a (s.n / 3) (s.n % 3) s.m).2]) (by simp [results, Tryd.results18, go_sem, *]) rfl (by rw [HP.out]; exact ⟨_, rfl, H.out.1, H.out.2⟩)
set_option maxRecDepth 100000 in
set_option maxHeartbeats 1600000 in
theorem play_Do_gone (a : Arr) (s : Step) (v vs : Value) (F : Fp) {F2 : Fp} (w : World) (h : RdA w F v a) (hs : RdSt w F2 vs s) (hsh : Shape a.disks) (hno : a.ints = []) (hlo : -9223372036854775808 ≤ s.n) (hk : s.kind = 4) :
    Calls Tryd.prog 18 #[v, vs] w fun e w' => ∃ v', e = .returned (.tuple #[v', .int .i64 (stepP a s).2]) ∧ RdA w' (fun k => w.heap.size ≤ k) v' (stepP a s).1 ∧ Below w.heap.size w w' := by
  obtain ⟨b0, o0, c0, Ai, ci, rfl, hD, hI, hc0, hc1⟩ := RdA_open h hsh
  obtain ⟨dv, rfl, hsn, hdv⟩ := hs
  replace hdv := okB.lt hdv
  obtain ⟨Ad, cd, rfl, _, _⟩ := hdv.shape
  obtain ⟨w1, hW, hA, hX, hZ, hB, hsz⟩ := boxes3 w [.slice (some ⟨b0, o0, none⟩) 4 c0, .slice Ai a.ints.length ci] [.int .i64 s.kind, .int .i64 s.n, .int .i64 s.m, .int .i64 s.deed.kind, .int .i64 s.deed.n, .int .i64 s.deed.m, .slice Ad s.deed.data.length cd] [.slice none 0 0, .slice none 0 0] 37 44 37
  change (((w.alloc (.cells #[.slice (some ⟨b0, o0, none⟩) 4 c0, .slice Ai a.ints.length ci] 37)).alloc (.cells #[.int .i64 s.kind, .int .i64 s.n, .int .i64 s.m, .int .i64 s.deed.kind, .int .i64 s.deed.n, .int .i64 s.deed.m, .slice Ad s.deed.data.length cd] 44)).alloc (.cells #[.slice none 0 0, .slice none 0 0] 37)) = w1 at hW
  have HP := Lib.hid (show stepP a s = goneA a s.n by unfold stepP stepK; rw [if_neg (by omega), if_neg (by omega), if_neg (by omega), if_pos hk])
  rw [hk] at hX hW ⊢
  have hAr : RdA w1 (fun k => F k ∧ k < w.heap.size ∨ w.heap.size + 3 ≤ k) (.agg #[.slice (some ⟨b0, o0, none⟩) 4 c0, .slice Ai a.ints.length ci]) a := ⟨_, _, rfl, okBBB.mono (okBBB.grow hD hB) fun _ hk => .inl hk, okIs.mono (okIs.grow hI hB) fun _ hk => .inl hk⟩
  have hdd : RdD w1 (fun k => F2 k ∧ k < w.heap.size) (.agg #[.int .i64 s.deed.kind, .int .i64 s.deed.n, .int .i64 s.deed.m, .slice Ad s.deed.data.length cd]) s.deed := ⟨_, rfl, okB.grow hdv hB⟩
  have HSZ := Lib.hid hsz
  have HS := Lib.hid hsh
  have HNO := Lib.hid hno
  have HA := Lib.hid hA
  have HX := Lib.hid hX
  have HZ := Lib.hid hZ
  have HB := Lib.hid hB
  have HAr := Lib.hid hAr
  have HDD := Lib.hid hdd
  obtain ⟨x0, x1, x2, x3⟩ := hA.two
  obtain ⟨y0, y1, y2, y3, y4, y5, y6⟩ := hX.seven
  clear hsz hsh h hA hX hZ hB hAr hdd hdv hD hI hno
  go_enter Tryd.func18, Tryd.ntmps18
  go_wp2_with fail
  clear hW
  refine (harm_Gone a s.n _ _ _ HAr.out HS.out HNO.out).mono ?_
  rintro e w2 ⟨v2, rfl, hr2, hb2⟩
  have hsh2 := gone_shape' HS.out s.n
  obtain ⟨b5, o5, c5, A5, c6, rfl, _, _, _, _⟩ := RdA_open hr2 hsh2
  have hZ2 := HZ.out.grow hb2
  obtain ⟨z0, z1, z2, z3⟩ := hZ2.two
  have H := Lib.hid (ret_box (F' := fun k => w.heap.size ≤ k) hZ2 (HB.out.trans (hb2.mono HB.out.size)) (by omega) hr2 (fun k hk => by have := HSZ.out; omega) fun k hk => by have := HSZ.out; omega)
  clear hZ2 hb2 hr2 hsh2
  go_wp2_with fail
  exact bodyPost_ret (v := .tuple #[.agg #[.slice (some ⟨b5, o5, none⟩) 4 c5, .slice A5 (goneA a s.n).1.ints.length c6], .int .i64 (goneA a s.n).2]) (by simp [results, Tryd.results18, go_sem, *]) rfl (by rw [HP.out]; exact ⟨_, rfl, H.out.1, H.out.2⟩)
set_option maxRecDepth 100000 in
set_option maxHeartbeats 1600000 in
theorem play_Do_mend (a : Arr) (s : Step) (v vs : Value) (F : Fp) {F2 : Fp} (w : World) (h : RdA w F v a) (hs : RdSt w F2 vs s) (hsh : Shape a.disks) (hno : a.ints = []) (hlo : -9223372036854775808 ≤ s.n) (hk : s.kind = 5) :
    Calls Tryd.prog 18 #[v, vs] w fun e w' => ∃ v', e = .returned (.tuple #[v', .int .i64 (stepP a s).2]) ∧ RdA w' (fun k => w.heap.size ≤ k) v' (stepP a s).1 ∧ Below w.heap.size w w' := by
  obtain ⟨b0, o0, c0, Ai, ci, rfl, hD, hI, hc0, hc1⟩ := RdA_open h hsh
  obtain ⟨dv, rfl, hsn, hdv⟩ := hs
  replace hdv := okB.lt hdv
  obtain ⟨Ad, cd, rfl, _, _⟩ := hdv.shape
  obtain ⟨w1, hW, hA, hX, hZ, hB, hsz⟩ := boxes3 w [.slice (some ⟨b0, o0, none⟩) 4 c0, .slice Ai a.ints.length ci] [.int .i64 s.kind, .int .i64 s.n, .int .i64 s.m, .int .i64 s.deed.kind, .int .i64 s.deed.n, .int .i64 s.deed.m, .slice Ad s.deed.data.length cd] [.slice none 0 0, .slice none 0 0] 37 44 37
  change (((w.alloc (.cells #[.slice (some ⟨b0, o0, none⟩) 4 c0, .slice Ai a.ints.length ci] 37)).alloc (.cells #[.int .i64 s.kind, .int .i64 s.n, .int .i64 s.m, .int .i64 s.deed.kind, .int .i64 s.deed.n, .int .i64 s.deed.m, .slice Ad s.deed.data.length cd] 44)).alloc (.cells #[.slice none 0 0, .slice none 0 0] 37)) = w1 at hW
  have HP := Lib.hid (show stepP a s = ((mendA a s.n).1, (mendA a s.n).2.2) by unfold stepP stepK; rw [if_neg (by omega), if_neg (by omega), if_neg (by omega), if_neg (by omega), if_pos hk])
  rw [hk] at hX hW ⊢
  have hAr : RdA w1 (fun k => F k ∧ k < w.heap.size ∨ w.heap.size + 3 ≤ k) (.agg #[.slice (some ⟨b0, o0, none⟩) 4 c0, .slice Ai a.ints.length ci]) a := ⟨_, _, rfl, okBBB.mono (okBBB.grow hD hB) fun _ hk => .inl hk, okIs.mono (okIs.grow hI hB) fun _ hk => .inl hk⟩
  have hdd : RdD w1 (fun k => F2 k ∧ k < w.heap.size) (.agg #[.int .i64 s.deed.kind, .int .i64 s.deed.n, .int .i64 s.deed.m, .slice Ad s.deed.data.length cd]) s.deed := ⟨_, rfl, okB.grow hdv hB⟩
  have HSZ := Lib.hid hsz
  have HS := Lib.hid hsh
  have HNO := Lib.hid hno
  have HA := Lib.hid hA
  have HX := Lib.hid hX
  have HZ := Lib.hid hZ
  have HB := Lib.hid hB
  have HAr := Lib.hid hAr
  have HDD := Lib.hid hdd
  obtain ⟨x0, x1, x2, x3⟩ := hA.two
  obtain ⟨y0, y1, y2, y3, y4, y5, y6⟩ := hX.seven
  clear hsz hsh h hA hX hZ hB hAr hdd hdv hD hI hno
  go_enter Tryd.func18, Tryd.ntmps18
  go_wp2_with fail
  clear hW
  refine (mend_Stripe a s.n _ _ _ HAr.out HS.out HNO.out).mono ?_
  rintro e w2 ⟨v2, rfl, hr2, hb2⟩
  have hsh2 := mend_shape HS.out s.n
  obtain ⟨b7, o7, c7, A7, c8, rfl, _, _, _, _⟩ := RdA_open hr2 hsh2
  have hal := below_alloc w2 (.cells #[.slice (some ⟨b7, o7, none⟩) 4 c7, .slice A7 (mendA a s.n).1.ints.length c8] 37)
  have hM := boxAt_new w2 37 [.slice (some ⟨b7, o7, none⟩) 4 c7, .slice A7 (mendA a s.n).1.ints.length c8]
  have hb3 := hb2.trans (hal.mono hb2.size)
  have hB3 := HB.out.trans (hb3.mono HB.out.size)
  have hZ3 := HZ.out.grow hb3
  have hr3 := hr2.grow hal
  obtain ⟨w3, hw3⟩ : ∃ x, w2.alloc (.cells #[.slice (some ⟨b7, o7, none⟩) 4 c7, .slice A7 (mendA a s.n).1.ints.length c8] 37) = x := ⟨_, rfl⟩
  change BoxAt (w2.alloc (.cells #[.slice (some ⟨b7, o7, none⟩) 4 c7, .slice A7 (mendA a s.n).1.ints.length c8] 37)) _ _ _ at hM
  rw [hw3] at hM hB3 hZ3 hr3
  obtain ⟨q0, q1, q2, q3⟩ := hM.two
  obtain ⟨z0, z1, z2, z3⟩ := hZ3.two
  have hs3 := hZ3.lt
  have H := Lib.hid (ret_box (F' := fun k => w.heap.size ≤ k) hZ3 hB3 (by omega) hr3 (fun k hk => by have := HSZ.out; omega) fun k hk => by have := HSZ.out; omega)
  clear hal hM hb3 hB3 hZ3 hr3 hr2 hb2 hsh2 x0 x1 x2 x3 y0 y1 y2 y3 y4 y5 y6
  go_wp2_with fail
  exact bodyPost_ret (v := .tuple #[.agg #[.slice (some ⟨b7, o7, none⟩) 4 c7, .slice A7 (mendA a s.n).1.ints.length c8], .int .i64 (mendA a s.n).2.2]) (by simp [results, Tryd.results18, go_sem, *]) rfl (by rw [HP.out]; exact ⟨_, rfl, H.out.1, H.out.2⟩)
set_option maxRecDepth 100000 in
set_option maxHeartbeats 1600000 in
theorem play_Do_none (a : Arr) (s : Step) (v vs : Value) (F : Fp) {F2 : Fp} (w : World) (h : RdA w F v a) (hs : RdSt w F2 vs s) (hsh : Shape a.disks) (hno : a.ints = []) (hlo : -9223372036854775808 ≤ s.n) (h1 : s.kind ≠ 1) (h2 : s.kind ≠ 2) (h3 : s.kind ≠ 3) (h4 : s.kind ≠ 4) (h5 : s.kind ≠ 5) :
    Calls Tryd.prog 18 #[v, vs] w fun e w' => ∃ v', e = .returned (.tuple #[v', .int .i64 (stepP a s).2]) ∧ RdA w' (fun k => w.heap.size ≤ k) v' (stepP a s).1 ∧ Below w.heap.size w w' := by
  obtain ⟨b0, o0, c0, Ai, ci, rfl, hD, hI, hc0, hc1⟩ := RdA_open h hsh
  obtain ⟨dv, rfl, hsn, hdv⟩ := hs
  replace hdv := okB.lt hdv
  obtain ⟨Ad, cd, rfl, _, _⟩ := hdv.shape
  obtain ⟨w1, hW, hA, hX, hZ, hB, hsz⟩ := boxes3 w [.slice (some ⟨b0, o0, none⟩) 4 c0, .slice Ai a.ints.length ci] [.int .i64 s.kind, .int .i64 s.n, .int .i64 s.m, .int .i64 s.deed.kind, .int .i64 s.deed.n, .int .i64 s.deed.m, .slice Ad s.deed.data.length cd] [.slice none 0 0, .slice none 0 0] 37 44 37
  change (((w.alloc (.cells #[.slice (some ⟨b0, o0, none⟩) 4 c0, .slice Ai a.ints.length ci] 37)).alloc (.cells #[.int .i64 s.kind, .int .i64 s.n, .int .i64 s.m, .int .i64 s.deed.kind, .int .i64 s.deed.n, .int .i64 s.deed.m, .slice Ad s.deed.data.length cd] 44)).alloc (.cells #[.slice none 0 0, .slice none 0 0] 37)) = w1 at hW
  have HP := Lib.hid (show stepP a s = (a, 1) by unfold stepP stepK; rw [if_neg h1, if_neg h2, if_neg h3, if_neg h4, if_neg h5])
  have e1 : (s.kind == 1) = false := by simpa using h1
  have e2 : (s.kind == 2) = false := by simpa using h2
  have e3 : (s.kind == 3) = false := by simpa using h3
  have e4 : (s.kind == 4) = false := by simpa using h4
  have e5 : (s.kind == 5) = false := by simpa using h5
  have hAr : RdA w1 (fun k => F k ∧ k < w.heap.size ∨ w.heap.size + 3 ≤ k) (.agg #[.slice (some ⟨b0, o0, none⟩) 4 c0, .slice Ai a.ints.length ci]) a := ⟨_, _, rfl, okBBB.mono (okBBB.grow hD hB) fun _ hk => .inl hk, okIs.mono (okIs.grow hI hB) fun _ hk => .inl hk⟩
  have hdd : RdD w1 (fun k => F2 k ∧ k < w.heap.size) (.agg #[.int .i64 s.deed.kind, .int .i64 s.deed.n, .int .i64 s.deed.m, .slice Ad s.deed.data.length cd]) s.deed := ⟨_, rfl, okB.grow hdv hB⟩
  have HSZ := Lib.hid hsz
  have HS := Lib.hid hsh
  have HNO := Lib.hid hno
  have HA := Lib.hid hA
  have HX := Lib.hid hX
  have HZ := Lib.hid hZ
  have HB := Lib.hid hB
  have HAr := Lib.hid hAr
  have HDD := Lib.hid hdd
  obtain ⟨x0, x1, x2, x3⟩ := hA.two
  obtain ⟨y0, y1, y2, y3, y4, y5, y6⟩ := hX.seven
  clear hsz hsh h hA hX hZ hB hAr hdd hdv hD hI hno
  go_enter Tryd.func18, Tryd.ntmps18
  have hs3 := HZ.out.lt
  have hsz1 := HSZ.out
  go_wp2_with fail
  try clear hW
  refine (array_OwnR a _ _ _ HAr.out HS.out (.inl HNO.out)).mono ?_
  rintro e w9 ⟨v9, rfl, hr9, hb9⟩
  obtain ⟨b9, o9, c9, A9, d9, rfl, _, _, _, _⟩ := RdA_open hr9 HS.out
  have hZ9 := HZ.out.grow hb9
  obtain ⟨z0, z1, z2, z3⟩ := hZ9.two
  have hs9 := HZ.out.lt
  have H := Lib.hid (ret_box (F' := fun k => w.heap.size ≤ k) hZ9 (HB.out.trans (hb9.mono HB.out.size)) (by omega) hr9 (fun k hk => by omega) fun k hk => by omega)
  clear hZ9 hb9 hr9
  go_wp2_with fail
  exact bodyPost_ret (v := .tuple #[.agg #[.slice (some ⟨b9, o9, none⟩) 4 c9, .slice A9 a.ints.length d9], .int .i64 1]) (by simp [results, Tryd.results18, go_sem, *]) rfl (by rw [HP.out]; exact ⟨_, rfl, H.out.1, H.out.2⟩)
theorem play_Do (a : Arr) (s : Step) (v vs : Value) (F : Fp) {F2 : Fp} (w : World) (h : RdA w F v a) (hs : RdSt w F2 vs s) (hsh : Shape a.disks) (hno : a.ints = []) (hlo : -9223372036854775808 ≤ s.n) :
    Calls Tryd.prog 18 #[v, vs] w fun e w' => ∃ v', e = .returned (.tuple #[v', .int .i64 (stepP a s).2]) ∧ RdA w' (fun k => w.heap.size ≤ k) v' (stepP a s).1 ∧ Below w.heap.size w w' := by
  by_cases h1 : s.kind = 1
  · exact play_Do_deed a s v vs F w h hs hsh hno hlo h1
  by_cases h2 : s.kind = 2
  · exact play_Do_fall a s v vs F w h hs hsh hno hlo h2
  by_cases h3 : s.kind = 3
  · exact play_Do_rot a s v vs F w h hs hsh hno hlo h3
  by_cases h4 : s.kind = 4
  · exact play_Do_gone a s v vs F w h hs hsh hno hlo h4
  by_cases h5 : s.kind = 5
  · exact play_Do_mend a s v vs F w h hs hsh hno hlo h5
  exact play_Do_none a s v vs F w h hs hsh hno hlo h1 h2 h3 h4 h5
end Go.Proofs.YtdcmbdghnkgghaaDoor

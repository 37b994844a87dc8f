/- Chapter 11: what the reference's Step computes. -/
import Derived.Test.YtlbnkoahkfhimaaC9b
namespace Go.Proofs.Ytlbnkoahkfhimaa
set_option linter.unusedVariables false
open Go Go.RowKit M
/-- A step, as a value of seven cells. -/
def RdSt (w : World) (F : Fp) (v : Value) (s : Step) : Prop := ∃ dv, v = .agg #[.int .i64 s.kind, .int .i64 s.n, .int .i64 s.m, .int .i64 s.deed.kind, .int .i64 s.deed.n, .int .i64 s.deed.m, dv] ∧ s.n ≤ 9223372036854775807 ∧ RdB w F dv s.deed.data
theorem quo3 {n : Int} (h0 : 0 ≤ n) (h1 : n ≤ 9223372036854775807) : wrap64 (n.tdiv 3) = n / 3 := by
  rw [Int.tdiv_eq_ediv_of_nonneg h0]
  unfold wrap64
  omega
theorem M.BoxAt.seven {w : World} {b : Nat} {T : TypeId} {a0 a1 a2 a3 a4 a5 a6 : Value} (h : BoxAt w b T [a0, a1, a2, a3, a4, a5, a6]) : w.cell? ⟨b, 0, none⟩ = some a0 ∧ w.cell? ⟨b, 1, none⟩ = some a1 ∧ w.cell? ⟨b, 2, none⟩ = some a2 ∧ w.cell? ⟨b, 3, none⟩ = some a3 ∧ w.cell? ⟨b, 4, none⟩ = some a4 ∧ w.cell? ⟨b, 5, none⟩ = some a5 ∧ w.cell? ⟨b, 6, none⟩ = some a6 :=
  ⟨h.cell 0, h.cell 1, h.cell 2, h.cell 3, h.cell 4, h.cell 5, h.cell 6⟩
theorem doA_shape {a : Arr} (h : Shape a.disks) (d : Deed) : Shape (doA a d).1.disks := by
  by_cases he : (planA a.disks d).2 = 0
  · rw [doA_ok he]; exact putTo_shape h _ (intOk_plan h he).2.2.2 4
  · rw [doA_bad he]; exact h
theorem rot_shape {a : Arr} (h : Shape a.disks) (d s n : Int) : Shape (rotA a d s n).1.disks := (rot_back h d s n).2.2
theorem writeR_ints {a : Arr} (h : a.ints = []) {i : Int × List Bs} (hi : IntOk i) (n : Int) : (∀ j ∈ (writeR a i n).ints, IntOk j) ∧ (writeR a i n).ints.length ≤ 1 := by
  unfold writeR writeK
  simp only []
  split
  · exact ⟨fun j hj => (List.not_mem_nil hj).elim, Nat.zero_le _⟩
  · split
    · exact ⟨fun j hj => by rw [List.mem_singleton] at hj; rw [hj]; exact hi, Nat.le_refl _⟩
    · rw [h]; exact ⟨fun j hj => (List.not_mem_nil hj).elim, Nat.zero_le _⟩
theorem writeR_shape {a : Arr} (h : Shape a.disks) {i : Int × List Bs} (hi : IntOk i) (n : Int) : Shape (writeR a i n).disks := putTo_shape h _ hi.2.2.2 _
set_option maxRecDepth 100000 in
set_option maxHeartbeats 1600000 in
theorem ref_Step_deed (a : Arr) (s : Step) (v vs : Value) (F : Fp) {F2 : Fp} (w : World) (h : RdA w F v a) (hs : RdSt w F2 vs s) (hsh : Shape a.disks) (hno : a.ints = []) (hk : s.kind = 1) :
    Calls Try.prog 58 #[v, vs] w fun e w' => ∃ v', e = .returned (.tuple #[v', .int .i64 (stepR a s).2]) ∧ RdA w' (fun k => F k ∨ w.heap.size ≤ k) v' (stepR a s).1 ∧ Below w.heap.size w w' := by
  obtain ⟨b0, o0, c0, Ai, ci, rfl, hD, hI, hc0, hc1⟩ := RdA_open h hsh
  obtain ⟨dv, rfl, hsn, hdv⟩ := hs
  replace hdv := okB.lt hdv
  obtain ⟨Ad, cd, rfl, _, _⟩ := hdv.shape
  obtain ⟨w1, hW, hA, hX, hZ, hB, hsz⟩ := boxes3 w [.slice (some ⟨b0, o0, none⟩) 4 c0, .slice Ai a.ints.length ci] [.int .i64 s.kind, .int .i64 s.n, .int .i64 s.m, .int .i64 s.deed.kind, .int .i64 s.deed.n, .int .i64 s.deed.m, .slice Ad s.deed.data.length cd] [.slice none 0 0, .slice none 0 0] 41 79 41
  change (((w.alloc (.cells #[.slice (some ⟨b0, o0, none⟩) 4 c0, .slice Ai a.ints.length ci] 41)).alloc (.cells #[.int .i64 s.kind, .int .i64 s.n, .int .i64 s.m, .int .i64 s.deed.kind, .int .i64 s.deed.n, .int .i64 s.deed.m, .slice Ad s.deed.data.length cd] 79)).alloc (.cells #[.slice none 0 0, .slice none 0 0] 41)) = w1 at hW
  have HP := Lib.hid (show stepR a s = doA a s.deed by unfold stepR stepK; rw [if_pos hk])
  rw [hk] at hX hW ⊢
  have hAr : RdA w1 (fun k => F k ∧ k < w.heap.size ∨ w.heap.size + 3 ≤ k) (.agg #[.slice (some ⟨b0, o0, none⟩) 4 c0, .slice Ai a.ints.length ci]) a := ⟨_, _, rfl, okBBB.mono (okBBB.grow hD hB) fun _ hk => .inl hk, okIs.mono (okIs.grow hI hB) fun _ hk => .inl hk⟩
  have hdd : RdD w1 (fun k => F2 k ∧ k < w.heap.size) (.agg #[.int .i64 s.deed.kind, .int .i64 s.deed.n, .int .i64 s.deed.m, .slice Ad s.deed.data.length cd]) s.deed := ⟨_, rfl, okB.grow hdv hB⟩
  have HSZ := Lib.hid hsz
  have HS := Lib.hid hsh
  have HNO := Lib.hid hno
  have HA := Lib.hid hA
  have HX := Lib.hid hX
  have HZ := Lib.hid hZ
  have HB := Lib.hid hB
  have HAr := Lib.hid hAr
  have HDD := Lib.hid hdd
  obtain ⟨x0, x1, x2, x3⟩ := hA.two
  obtain ⟨y0, y1, y2, y3, y4, y5, y6⟩ := hX.seven
  clear hsz hsh h hA hX hZ hB hAr hdd hdv hD hI hno
  go_enter Try.func58, Try.ntmps58
  go_wp2_with fail
  clear hW
  refine (ref_Do6 a s.deed _ _ _ _ HAr.out HDD.out HS.out).mono ?_
  rintro e w2 ⟨v2, rfl, hr2, hb2⟩
  have hsh2 := doA_shape HS.out s.deed
  obtain ⟨b5, o5, c5, A5, c6, rfl, _, _, _, _⟩ := RdA_open hr2 hsh2
  have hZ2 := HZ.out.grow hb2
  obtain ⟨z0, z1, z2, z3⟩ := hZ2.two
  have H := Lib.hid (ret_box (F' := fun k => F k ∨ w.heap.size ≤ k) hZ2 (HB.out.trans (hb2.mono HB.out.size)) (by omega) hr2 (fun k hk => by have := HSZ.out; omega) fun k hk => by have := HSZ.out; rcases hk with (hk | hk) | hk; exact .inl hk.1; exact .inr (by omega); exact .inr (by omega))
  clear hZ2 hb2 hr2 hsh2
  go_wp2_with fail
  exact bodyPost_ret (v := .tuple #[.agg #[.slice (some ⟨b5, o5, none⟩) 4 c5, .slice A5 (doA a s.deed).1.ints.length c6], .int .i64 (doA a s.deed).2]) (by simp [results, Try.results58, go_sem, *]) rfl (by rw [HP.out]; exact ⟨_, rfl, H.out.1, H.out.2⟩)
set_option maxRecDepth 100000 in
set_option maxHeartbeats 1600000 in
theorem ref_Step_fall (a : Arr) (s : Step) (v vs : Value) (F : Fp) {F2 : Fp} (w : World) (h : RdA w F v a) (hs : RdSt w F2 vs s) (hsh : Shape a.disks) (hno : a.ints = []) (hk : s.kind = 2) :
    Calls Try.prog 58 #[v, vs] w fun e w' => ∃ v', e = .returned (.tuple #[v', .int .i64 (stepR a s).2]) ∧ RdA w' (fun k => F k ∨ w.heap.size ≤ k) v' (stepR a s).1 ∧ Below w.heap.size w w' := by
  obtain ⟨b0, o0, c0, Ai, ci, rfl, hD, hI, hc0, hc1⟩ := RdA_open h hsh
  obtain ⟨dv, rfl, hsn, hdv⟩ := hs
  replace hdv := okB.lt hdv
  obtain ⟨Ad, cd, rfl, _, _⟩ := hdv.shape
  obtain ⟨w1, hW, hA, hX, hZ, hB, hsz⟩ := boxes3 w [.slice (some ⟨b0, o0, none⟩) 4 c0, .slice Ai a.ints.length ci] [.int .i64 s.kind, .int .i64 s.n, .int .i64 s.m, .int .i64 s.deed.kind, .int .i64 s.deed.n, .int .i64 s.deed.m, .slice Ad s.deed.data.length cd] [.slice none 0 0, .slice none 0 0] 41 79 41
  change (((w.alloc (.cells #[.slice (some ⟨b0, o0, none⟩) 4 c0, .slice Ai a.ints.length ci] 41)).alloc (.cells #[.int .i64 s.kind, .int .i64 s.n, .int .i64 s.m, .int .i64 s.deed.kind, .int .i64 s.deed.n, .int .i64 s.deed.m, .slice Ad s.deed.data.length cd] 79)).alloc (.cells #[.slice none 0 0, .slice none 0 0] 41)) = w1 at hW
  have HPB := Lib.hid (show (planA a.disks s.deed).2 ≠ 0 → stepR a s = (a, (planA a.disks s.deed).2) by intro h; unfold stepR stepK; rw [if_neg (by omega), if_pos hk, if_pos h])
  have HPG := Lib.hid (show (planA a.disks s.deed).2 = 0 → stepR a s = (mountA (writeR a (planA a.disks s.deed).1 s.n), 0) by intro h; unfold stepR stepK; rw [if_neg (by omega), if_pos hk, if_neg (by simpa using h)]; rfl)
  rw [hk] at hX hW ⊢
  have hAr : RdA w1 (fun k => F k ∧ k < w.heap.size ∨ w.heap.size + 3 ≤ k) (.agg #[.slice (some ⟨b0, o0, none⟩) 4 c0, .slice Ai a.ints.length ci]) a := ⟨_, _, rfl, okBBB.mono (okBBB.grow hD hB) fun _ hk => .inl hk, okIs.mono (okIs.grow hI hB) fun _ hk => .inl hk⟩
  have hdd : RdD w1 (fun k => F2 k ∧ k < w.heap.size) (.agg #[.int .i64 s.deed.kind, .int .i64 s.deed.n, .int .i64 s.deed.m, .slice Ad s.deed.data.length cd]) s.deed := ⟨_, rfl, okB.grow hdv hB⟩
  have HSZ := Lib.hid hsz
  have HS := Lib.hid hsh
  have HNO := Lib.hid hno
  have HA := Lib.hid hA
  have HX := Lib.hid hX
  have HZ := Lib.hid hZ
  have HB := Lib.hid hB
  have HAr := Lib.hid hAr
  have HDD := Lib.hid hdd
  obtain ⟨x0, x1, x2, x3⟩ := hA.two
  obtain ⟨y0, y1, y2, y3, y4, y5, y6⟩ := hX.seven
  clear hsz hsh h hA hX hZ hB hAr hdd hdv hD hI hno
  go_enter Try.func58, Try.ntmps58
  go_wp2_with fail
  clear hW
  refine (ref_Plan a s.deed _ _ _ _ HAr.out HDD.out HS.out).mono ?_
  rintro e w2 ⟨v2, rfl, ⟨cv, rfl, hr2⟩, hb2⟩
  obtain ⟨Ac, cc, rfl, _, _⟩ := hr2.shape
  have hal := below_alloc w2 (.cells #[.int .i64 (planA a.disks s.deed).1.1, .slice Ac (planA a.disks s.deed).1.2.length cc] 88)
  have hI3 := boxAt_new w2 88 [.int .i64 (planA a.disks s.deed).1.1, .slice Ac (planA a.disks s.deed).1.2.length cc]
  have hb3 := hb2.trans (hal.mono hb2.size)
  have hB3 := HB.out.trans (hb3.mono HB.out.size)
  have hA3 := HA.out.grow hb3
  have hX3 := HX.out.grow hb3
  have hZ3 := HZ.out.grow hb3
  have hr3 := okBB.mono (okBB.grow (okBB.lt hr2) hal) (F' := fun k => F k ∧ k < w.heap.size ∨ w.heap.size + 3 ≤ k) fun k hk => by have := HSZ.out; omega
  have hAr3 := HAr.out.grow hb3
  obtain ⟨w3, hw3⟩ : ∃ x, w2.alloc (.cells #[.int .i64 (planA a.disks s.deed).1.1, .slice Ac (planA a.disks s.deed).1.2.length cc] 88) = x := ⟨_, rfl⟩
  change BoxAt (w2.alloc (.cells #[.int .i64 (planA a.disks s.deed).1.1, .slice Ac (planA a.disks s.deed).1.2.length cc] 88)) _ _ _ at hI3
  rw [hw3] at hI3 hB3 hA3 hX3 hZ3 hr3 hAr3
  replace HA := Lib.hid hA3
  replace HX := Lib.hid hX3
  replace HB := Lib.hid hB3
  replace HZ := Lib.hid hZ3
  replace HAr := Lib.hid hAr3
  have HR3 := Lib.hid hr3
  have HI3 := Lib.hid hI3
  clear hal hI3 hb3 hB3 hA3 hX3 hZ3 hr3 hAr3 hb2 hr2 x0 x1 x2 x3 y0 y1 y2 y3 y4 y5 y6
  have hs3 := HZ.out.lt
  by_cases he : (planA a.disks s.deed).2 = 0
  · have HP := Lib.hid (HPG.out he)
    have HIO := Lib.hid (intOk_plan HS.out he)
    have i3 := HIO.out.2.2.1
    rw [he]
    clear he HPG HPB
    generalize (planA a.disks s.deed).1 = i at *
    rw [i3] at HR3 HI3 hw3 ⊢
    obtain ⟨x0, x1, x2, x3⟩ := HA.out.two
    obtain ⟨y0, y1, y2, y3, y4, y5, y6⟩ := HX.out.seven
    obtain ⟨q0, q1, q2, q3⟩ := HI3.out.two
    go_wp2_with fail
    refine (ref_Write a i s.n _ _ (fun k => F k ∧ k < w.heap.size ∨ w.heap.size + 3 ≤ k) _ HAr.out ⟨_, rfl, HR3.out⟩ HS.out HIO.out.1 HIO.out.2.1 HIO.out.2.2.1 HIO.out.2.2.2).mono ?_
    rintro e w4 ⟨v4, rfl, hr4, hb4⟩
    have hsh4 := writeR_shape HS.out HIO.out s.n
    obtain ⟨hin, hil⟩ := writeR_ints HNO.out HIO.out s.n
    obtain ⟨b7, o7, c7, A7, c8, rfl, _, _, _, _⟩ := RdA_open hr4 hsh4
    have hr4' := hr4.mono (F' := fun k => F k ∧ k < w.heap.size ∨ w.heap.size + 3 ≤ k) fun k hk => hk.elim id fun h => .inr (by omega)
    clear hr4
    replace HZ := Lib.hid (HZ.out.grow hb4)
    replace HB := Lib.hid (HB.out.trans (hb4.mono HB.out.size))
    have hs4 := HZ.out.lt
    clear hb4 x0 x1 x2 x3 y0 y1 y2 y3 y4 y5 y6 q0 q1 q2 q3 HAr HA HX
    generalize writeR a i s.n = b at *
    go_wp2_with fail
    refine (ref_Mount b _ _ _ hr4' hsh4 hin (by omega)).mono ?_
    rintro e w2 ⟨v2, rfl, hr2, hb2⟩
    have hsh2 : Shape (mountA b).disks := mountTo_shape hsh4 hin _
    clear hin hil
    obtain ⟨b5, o5, c5, A5, c6, rfl, _, _, _, _⟩ := RdA_open hr2 hsh2
    have hZ2 := HZ.out.grow hb2
    obtain ⟨z0, z1, z2, z3⟩ := hZ2.two
    have H := Lib.hid (ret_box (F' := fun k => F k ∨ w.heap.size ≤ k) hZ2 (HB.out.trans (hb2.mono HB.out.size)) (by omega) hr2 (fun k hk => by omega) fun k hk => by rcases hk with (hk | hk) | hk; exact .inl hk.1; exact .inr (by omega); exact .inr (by omega))
    clear hZ2 hb2 hr2 hsh2
    go_wp2_with fail
    exact bodyPost_ret (v := .tuple #[.agg #[.slice (some ⟨b5, o5, none⟩) 4 c5, .slice A5 (mountA b).ints.length c6], .int .i64 0]) (by simp [results, Try.results58, go_sem, *]) rfl (by rw [HP.out]; exact ⟨_, rfl, H.out.1, H.out.2⟩)
  · have HP := Lib.hid (HPB.out he)
    have hne : ((planA a.disks s.deed).2 != 0) = true := by simpa using he
    clear he HPG HPB
    generalize (planA a.disks s.deed).2 = q at *
    generalize (planA a.disks s.deed).1 = i at *
    obtain ⟨x0, x1, x2, x3⟩ := HA.out.two
    obtain ⟨z0, z1, z2, z3⟩ := HZ.out.two
    have H := Lib.hid (ret_box (F' := fun k => F k ∨ w.heap.size ≤ k) HZ.out HB.out (by omega) HAr.out (fun k hk => by omega) fun k hk => hk.elim (fun h => .inl h.1) fun h => .inr (by omega))
    go_wp2_with fail
    exact bodyPost_ret (v := .tuple #[.agg #[.slice (some ⟨b0, o0, none⟩) 4 c0, .slice Ai a.ints.length ci], .int .i64 q]) (by simp [results, Try.results58, go_sem, *]) rfl (by rw [HP.out]; exact ⟨_, rfl, H.out.1, H.out.2⟩)
set_option maxRecDepth 100000 in
set_option maxHeartbeats 1600000 in
theorem ref_Step_rot (a : Arr) (s : Step) (v vs : Value) (F : Fp) {F2 : Fp} (w : World) (h : RdA w F v a) (hs : RdSt w F2 vs s) (hsh : Shape a.disks) (hno : a.ints = []) (hk : s.kind = 3) :
    Calls Try.prog 58 #[v, vs] w fun e w' => ∃ v', e = .returned (.tuple #[v', .int .i64 (stepR a s).2]) ∧ RdA w' (fun k => F k ∨ w.heap.size ≤ k) v' (stepR a s).1 ∧ Below w.heap.size w w' := by
  obtain ⟨b0, o0, c0, Ai, ci, rfl, hD, hI, hc0, hc1⟩ := RdA_open h hsh
  obtain ⟨dv, rfl, hsn, hdv⟩ := hs
  replace hdv := okB.lt hdv
  obtain ⟨Ad, cd, rfl, _, _⟩ := hdv.shape
  obtain ⟨w1, hW, hA, hX, hZ, hB, hsz⟩ := boxes3 w [.slice (some ⟨b0, o0, none⟩) 4 c0, .slice Ai a.ints.length ci] [.int .i64 s.kind, .int .i64 s.n, .int .i64 s.m, .int .i64 s.deed.kind, .int .i64 s.deed.n, .int .i64 s.deed.m, .slice Ad s.deed.data.length cd] [.slice none 0 0, .slice none 0 0] 41 79 41
  change (((w.alloc (.cells #[.slice (some ⟨b0, o0, none⟩) 4 c0, .slice Ai a.ints.length ci] 41)).alloc (.cells #[.int .i64 s.kind, .int .i64 s.n, .int .i64 s.m, .int .i64 s.deed.kind, .int .i64 s.deed.n, .int .i64 s.deed.m, .slice Ad s.deed.data.length cd] 79)).alloc (.cells #[.slice none 0 0, .slice none 0 0] 41)) = w1 at hW
  have HPB := Lib.hid (show s.n < 0 → stepR a s = (a, 6) by intro h; unfold stepR stepK; rw [if_neg (by omega), if_neg (by omega), if_pos hk, if_pos h])
  have HPG := Lib.hid (show ¬ s.n < 0 → stepR a s = rotA a (s.n / 3) (s.n % 3) s.m by intro h; unfold stepR stepK; rw [if_neg (by omega), if_neg (by omega), if_pos hk, if_neg h])
  rw [hk] at hX hW ⊢
  have hAr : RdA w1 (fun k => F k ∧ k < w.heap.size ∨ w.heap.size + 3 ≤ k) (.agg #[.slice (some ⟨b0, o0, none⟩) 4 c0, .slice Ai a.ints.length ci]) a := ⟨_, _, rfl, okBBB.mono (okBBB.grow hD hB) fun _ hk => .inl hk, okIs.mono (okIs.grow hI hB) fun _ hk => .inl hk⟩
  have hdd : RdD w1 (fun k => F2 k ∧ k < w.heap.size) (.agg #[.int .i64 s.deed.kind, .int .i64 s.deed.n, .int .i64 s.deed.m, .slice Ad s.deed.data.length cd]) s.deed := ⟨_, rfl, okB.grow hdv hB⟩
  have HSZ := Lib.hid hsz
  have HS := Lib.hid hsh
  have HNO := Lib.hid hno
  have HA := Lib.hid hA
  have HX := Lib.hid hX
  have HZ := Lib.hid hZ
  have HB := Lib.hid hB
  have HAr := Lib.hid hAr
  have HDD := Lib.hid hdd
  obtain ⟨x0, x1, x2, x3⟩ := hA.two
  obtain ⟨y0, y1, y2, y3, y4, y5, y6⟩ := hX.seven
  clear hsz hsh h hA hX hZ hB hAr hdd hdv hD hI hno
  by_cases hn : s.n < 0
  · have HP := Lib.hid (HPB.out hn)
    have hs3 := HZ.out.lt
    go_enter Try.func58, Try.ntmps58
    obtain ⟨z0, z1, z2, z3⟩ := HZ.out.two
    have hsz1 := HSZ.out
    have H := Lib.hid (ret_box (F' := fun k => F k ∨ w.heap.size ≤ k) HZ.out HB.out (by omega) HAr.out (fun k hk => by omega) fun k hk => hk.elim (fun h => .inl h.1) fun h => .inr (by omega))
    clear hsz1
    go_wp2_with fail
    exact bodyPost_ret (v := .tuple #[.agg #[.slice (some ⟨b0, o0, none⟩) 4 c0, .slice Ai a.ints.length ci], .int .i64 6]) (by simp [results, Try.results58, go_sem, *]) rfl (by rw [HP.out]; exact ⟨_, rfl, H.out.1, H.out.2⟩)
  have HP := Lib.hid (HPG.out hn)
  clear HPB HPG
  go_enter Try.func58, Try.ntmps58
  go_wp2_with fail
  clear hW

  refine (ref_Rot a (s.n / 3) (s.n % 3) s.m _ _ _ HAr.out HS.out).mono ?_
  rintro e w2 ⟨v2, rfl, hr2, hb2⟩
  have hsh2 := rot_shape HS.out (s.n / 3) (s.n % 3) s.m
  obtain ⟨b5, o5, c5, A5, c6, rfl, _, _, _, _⟩ := RdA_open hr2 hsh2
  have hZ2 := HZ.out.grow hb2
  obtain ⟨z0, z1, z2, z3⟩ := hZ2.two
  have H := Lib.hid (ret_box (F' := fun k => F k ∨ w.heap.size ≤ k) hZ2 (HB.out.trans (hb2.mono HB.out.size)) (by omega) hr2 (fun k hk => by have := HSZ.out; omega) fun k hk => by have := HSZ.out; rcases hk with (hk | hk) | hk; exact .inl hk.1; exact .inr (by omega); exact .inr (by omega))
  clear hZ2 hb2 hr2 hsh2
  go_wp2_with fail
  exact bodyPost_ret (v := .tuple #[.agg #[.slice (some ⟨b5, o5, none⟩) 4 c5, .slice A5 (rotA a (s.n / 3) (s.n % 3) s.m).1.ints.length c6], .int .i64 (rotA a (s.n / 3) (s.n % 3) s.m).2]) (by simp [results, Try.results58, go_sem, *]) rfl (by rw [HP.out]; exact ⟨_, rfl, H.out.1, H.out.2⟩)
set_option maxRecDepth 100000 in
set_option maxHeartbeats 1600000 in
theorem ref_Step_gone (a : Arr) (s : Step) (v vs : Value) (F : Fp) {F2 : Fp} (w : World) (h : RdA w F v a) (hs : RdSt w F2 vs s) (hsh : Shape a.disks) (hno : a.ints = []) (hk : s.kind = 4) :
    Calls Try.prog 58 #[v, vs] w fun e w' => ∃ v', e = .returned (.tuple #[v', .int .i64 (stepR a s).2]) ∧ RdA w' (fun k => F k ∨ w.heap.size ≤ k) v' (stepR a s).1 ∧ Below w.heap.size w w' := by
  obtain ⟨b0, o0, c0, Ai, ci, rfl, hD, hI, hc0, hc1⟩ := RdA_open h hsh
  obtain ⟨dv, rfl, hsn, hdv⟩ := hs
  replace hdv := okB.lt hdv
  obtain ⟨Ad, cd, rfl, _, _⟩ := hdv.shape
  obtain ⟨w1, hW, hA, hX, hZ, hB, hsz⟩ := boxes3 w [.slice (some ⟨b0, o0, none⟩) 4 c0, .slice Ai a.ints.length ci] [.int .i64 s.kind, .int .i64 s.n, .int .i64 s.m, .int .i64 s.deed.kind, .int .i64 s.deed.n, .int .i64 s.deed.m, .slice Ad s.deed.data.length cd] [.slice none 0 0, .slice none 0 0] 41 79 41
  change (((w.alloc (.cells #[.slice (some ⟨b0, o0, none⟩) 4 c0, .slice Ai a.ints.length ci] 41)).alloc (.cells #[.int .i64 s.kind, .int .i64 s.n, .int .i64 s.m, .int .i64 s.deed.kind, .int .i64 s.deed.n, .int .i64 s.deed.m, .slice Ad s.deed.data.length cd] 79)).alloc (.cells #[.slice none 0 0, .slice none 0 0] 41)) = w1 at hW
  have HP := Lib.hid (show stepR a s = goneA a s.n by unfold stepR stepK; rw [if_neg (by omega), if_neg (by omega), if_neg (by omega), if_pos hk])
  rw [hk] at hX hW ⊢
  have hAr : RdA w1 (fun k => F k ∧ k < w.heap.size ∨ w.heap.size + 3 ≤ k) (.agg #[.slice (some ⟨b0, o0, none⟩) 4 c0, .slice Ai a.ints.length ci]) a := ⟨_, _, rfl, okBBB.mono (okBBB.grow hD hB) fun _ hk => .inl hk, okIs.mono (okIs.grow hI hB) fun _ hk => .inl hk⟩
  have hdd : RdD w1 (fun k => F2 k ∧ k < w.heap.size) (.agg #[.int .i64 s.deed.kind, .int .i64 s.deed.n, .int .i64 s.deed.m, .slice Ad s.deed.data.length cd]) s.deed := ⟨_, rfl, okB.grow hdv hB⟩
  have HSZ := Lib.hid hsz
  have HS := Lib.hid hsh
  have HNO := Lib.hid hno
  have HA := Lib.hid hA
  have HX := Lib.hid hX
  have HZ := Lib.hid hZ
  have HB := Lib.hid hB
  have HAr := Lib.hid hAr
  have HDD := Lib.hid hdd
  obtain ⟨x0, x1, x2, x3⟩ := hA.two
  obtain ⟨y0, y1, y2, y3, y4, y5, y6⟩ := hX.seven
  clear hsz hsh h hA hX hZ hB hAr hdd hdv hD hI hno
  go_enter Try.func58, Try.ntmps58
  go_wp2_with fail
  clear hW
  refine (ref_Gone a s.n _ _ _ HAr.out HS.out).mono ?_
  rintro e w2 ⟨v2, rfl, hr2, hb2⟩
  have hsh2 := gone_shape' HS.out s.n
  obtain ⟨b5, o5, c5, A5, c6, rfl, _, _, _, _⟩ := RdA_open hr2 hsh2
  have hZ2 := HZ.out.grow hb2
  obtain ⟨z0, z1, z2, z3⟩ := hZ2.two
  have H := Lib.hid (ret_box (F' := fun k => F k ∨ w.heap.size ≤ k) hZ2 (HB.out.trans (hb2.mono HB.out.size)) (by omega) hr2 (fun k hk => by have := HSZ.out; omega) fun k hk => by have := HSZ.out; rcases hk with (hk | hk) | hk; exact .inl hk.1; exact .inr (by omega); exact .inr (by omega))
  clear hZ2 hb2 hr2 hsh2
  go_wp2_with fail
  exact bodyPost_ret (v := .tuple #[.agg #[.slice (some ⟨b5, o5, none⟩) 4 c5, .slice A5 (goneA a s.n).1.ints.length c6], .int .i64 (goneA a s.n).2]) (by simp [results, Try.results58, go_sem, *]) rfl (by rw [HP.out]; exact ⟨_, rfl, H.out.1, H.out.2⟩)
set_option maxRecDepth 100000 in
set_option maxHeartbeats 1600000 in
theorem ref_Step_mend (a : Arr) (s : Step) (v vs : Value) (F : Fp) {F2 : Fp} (w : World) (h : RdA w F v a) (hs : RdSt w F2 vs s) (hsh : Shape a.disks) (hno : a.ints = []) (hk : s.kind = 5) :
    Calls Try.prog 58 #[v, vs] w fun e w' => ∃ v', e = .returned (.tuple #[v', .int .i64 (stepR a s).2]) ∧ RdA w' (fun k => F k ∨ w.heap.size ≤ k) v' (stepR a s).1 ∧ Below w.heap.size w w' := by
  obtain ⟨b0, o0, c0, Ai, ci, rfl, hD, hI, hc0, hc1⟩ := RdA_open h hsh
  obtain ⟨dv, rfl, hsn, hdv⟩ := hs
  replace hdv := okB.lt hdv
  obtain ⟨Ad, cd, rfl, _, _⟩ := hdv.shape
  obtain ⟨w1, hW, hA, hX, hZ, hB, hsz⟩ := boxes3 w [.slice (some ⟨b0, o0, none⟩) 4 c0, .slice Ai a.ints.length ci] [.int .i64 s.kind, .int .i64 s.n, .int .i64 s.m, .int .i64 s.deed.kind, .int .i64 s.deed.n, .int .i64 s.deed.m, .slice Ad s.deed.data.length cd] [.slice none 0 0, .slice none 0 0] 41 79 41
  change (((w.alloc (.cells #[.slice (some ⟨b0, o0, none⟩) 4 c0, .slice Ai a.ints.length ci] 41)).alloc (.cells #[.int .i64 s.kind, .int .i64 s.n, .int .i64 s.m, .int .i64 s.deed.kind, .int .i64 s.deed.n, .int .i64 s.deed.m, .slice Ad s.deed.data.length cd] 79)).alloc (.cells #[.slice none 0 0, .slice none 0 0] 41)) = w1 at hW
  have HP := Lib.hid (show stepR a s = ((mendA a s.n).1, (mendA a s.n).2.2) by unfold stepR stepK; rw [if_neg (by omega), if_neg (by omega), if_neg (by omega), if_neg (by omega), if_pos hk])
  rw [hk] at hX hW ⊢
  have hAr : RdA w1 (fun k => F k ∧ k < w.heap.size ∨ w.heap.size + 3 ≤ k) (.agg #[.slice (some ⟨b0, o0, none⟩) 4 c0, .slice Ai a.ints.length ci]) a := ⟨_, _, rfl, okBBB.mono (okBBB.grow hD hB) fun _ hk => .inl hk, okIs.mono (okIs.grow hI hB) fun _ hk => .inl hk⟩
  have hdd : RdD w1 (fun k => F2 k ∧ k < w.heap.size) (.agg #[.int .i64 s.deed.kind, .int .i64 s.deed.n, .int .i64 s.deed.m, .slice Ad s.deed.data.length cd]) s.deed := ⟨_, rfl, okB.grow hdv hB⟩
  have HSZ := Lib.hid hsz
  have HS := Lib.hid hsh
  have HNO := Lib.hid hno
  have HA := Lib.hid hA
  have HX := Lib.hid hX
  have HZ := Lib.hid hZ
  have HB := Lib.hid hB
  have HAr := Lib.hid hAr
  have HDD := Lib.hid hdd
  obtain ⟨x0, x1, x2, x3⟩ := hA.two
  obtain ⟨y0, y1, y2, y3, y4, y5, y6⟩ := hX.seven
  clear hsz hsh h hA hX hZ hB hAr hdd hdv hD hI hno
  go_enter Try.func58, Try.ntmps58
  go_wp2_with fail
  clear hW
  refine (ref_Mend a s.n _ _ _ HAr.out HS.out).mono ?_
  rintro e w2 ⟨v2, rfl, hr2, hb2⟩
  have hsh2 := mend_shape HS.out s.n
  obtain ⟨b7, o7, c7, A7, c8, rfl, _, _, _, _⟩ := RdA_open hr2 hsh2
  have hal := below_alloc w2 (.cells #[.slice (some ⟨b7, o7, none⟩) 4 c7, .slice A7 (mendA a s.n).1.ints.length c8] 41)
  have hM := boxAt_new w2 41 [.slice (some ⟨b7, o7, none⟩) 4 c7, .slice A7 (mendA a s.n).1.ints.length c8]
  have hb3 := hb2.trans (hal.mono hb2.size)
  have hB3 := HB.out.trans (hb3.mono HB.out.size)
  have hZ3 := HZ.out.grow hb3
  have hr3 := hr2.grow hal
  obtain ⟨w3, hw3⟩ : ∃ x, w2.alloc (.cells #[.slice (some ⟨b7, o7, none⟩) 4 c7, .slice A7 (mendA a s.n).1.ints.length c8] 41) = x := ⟨_, rfl⟩
  change BoxAt (w2.alloc (.cells #[.slice (some ⟨b7, o7, none⟩) 4 c7, .slice A7 (mendA a s.n).1.ints.length c8] 41)) _ _ _ at hM
  rw [hw3] at hM hB3 hZ3 hr3
  obtain ⟨q0, q1, q2, q3⟩ := hM.two
  obtain ⟨z0, z1, z2, z3⟩ := hZ3.two
  have hs3 := hZ3.lt
  have H := Lib.hid (ret_box (F' := fun k => F k ∨ w.heap.size ≤ k) hZ3 hB3 (by omega) hr3 (fun k hk => by have := HSZ.out; omega) fun k hk => by have := HSZ.out; rcases hk with (hk | hk) | hk; exact .inl hk.1; exact .inr (by omega); exact .inr (by omega))
  clear hal hM hb3 hB3 hZ3 hr3 hr2 hb2 hsh2 x0 x1 x2 x3 y0 y1 y2 y3 y4 y5 y6
  go_wp2_with fail
  exact bodyPost_ret (v := .tuple #[.agg #[.slice (some ⟨b7, o7, none⟩) 4 c7, .slice A7 (mendA a s.n).1.ints.length c8], .int .i64 (mendA a s.n).2.2]) (by simp [results, Try.results58, go_sem, *]) rfl (by rw [HP.out]; exact ⟨_, rfl, H.out.1, H.out.2⟩)
set_option maxRecDepth 100000 in
set_option maxHeartbeats 1600000 in
theorem ref_Step_none (a : Arr) (s : Step) (v vs : Value) (F : Fp) {F2 : Fp} (w : World) (h : RdA w F v a) (hs : RdSt w F2 vs s) (hsh : Shape a.disks) (hno : a.ints = []) (h1 : s.kind ≠ 1) (h2 : s.kind ≠ 2) (h3 : s.kind ≠ 3) (h4 : s.kind ≠ 4) (h5 : s.kind ≠ 5) :
    Calls Try.prog 58 #[v, vs] w fun e w' => ∃ v', e = .returned (.tuple #[v', .int .i64 (stepR a s).2]) ∧ RdA w' (fun k => F k ∨ w.heap.size ≤ k) v' (stepR a s).1 ∧ Below w.heap.size w w' := by
  obtain ⟨b0, o0, c0, Ai, ci, rfl, hD, hI, hc0, hc1⟩ := RdA_open h hsh
  obtain ⟨dv, rfl, hsn, hdv⟩ := hs
  replace hdv := okB.lt hdv
  obtain ⟨Ad, cd, rfl, _, _⟩ := hdv.shape
  obtain ⟨w1, hW, hA, hX, hZ, hB, hsz⟩ := boxes3 w [.slice (some ⟨b0, o0, none⟩) 4 c0, .slice Ai a.ints.length ci] [.int .i64 s.kind, .int .i64 s.n, .int .i64 s.m, .int .i64 s.deed.kind, .int .i64 s.deed.n, .int .i64 s.deed.m, .slice Ad s.deed.data.length cd] [.slice none 0 0, .slice none 0 0] 41 79 41
  change (((w.alloc (.cells #[.slice (some ⟨b0, o0, none⟩) 4 c0, .slice Ai a.ints.length ci] 41)).alloc (.cells #[.int .i64 s.kind, .int .i64 s.n, .int .i64 s.m, .int .i64 s.deed.kind, .int .i64 s.deed.n, .int .i64 s.deed.m, .slice Ad s.deed.data.length cd] 79)).alloc (.cells #[.slice none 0 0, .slice none 0 0] 41)) = w1 at hW
  have HP := Lib.hid (show stepR a s = (a, 1) by unfold stepR stepK; rw [if_neg h1, if_neg h2, if_neg h3, if_neg h4, if_neg h5])
  have e1 : (s.kind == 1) = false := by simpa using h1
  have e2 : (s.kind == 2) = false := by simpa using h2
  have e3 : (s.kind == 3) = false := by simpa using h3
  have e4 : (s.kind == 4) = false := by simpa using h4
  have e5 : (s.kind == 5) = false := by simpa using h5
  have hAr : RdA w1 (fun k => F k ∧ k < w.heap.size ∨ w.heap.size + 3 ≤ k) (.agg #[.slice (some ⟨b0, o0, none⟩) 4 c0, .slice Ai a.ints.length ci]) a := ⟨_, _, rfl, okBBB.mono (okBBB.grow hD hB) fun _ hk => .inl hk, okIs.mono (okIs.grow hI hB) fun _ hk => .inl hk⟩
  have hdd : RdD w1 (fun k => F2 k ∧ k < w.heap.size) (.agg #[.int .i64 s.deed.kind, .int .i64 s.deed.n, .int .i64 s.deed.m, .slice Ad s.deed.data.length cd]) s.deed := ⟨_, rfl, okB.grow hdv hB⟩
  have HSZ := Lib.hid hsz
  have HS := Lib.hid hsh
  have HNO := Lib.hid hno
  have HA := Lib.hid hA
  have HX := Lib.hid hX
  have HZ := Lib.hid hZ
  have HB := Lib.hid hB
  have HAr := Lib.hid hAr
  have HDD := Lib.hid hdd
  obtain ⟨x0, x1, x2, x3⟩ := hA.two
  obtain ⟨y0, y1, y2, y3, y4, y5, y6⟩ := hX.seven
  clear hsz hsh h hA hX hZ hB hAr hdd hdv hD hI hno
  go_enter Try.func58, Try.ntmps58
  have hs3 := HZ.out.lt
  have hsz1 := HSZ.out
  obtain ⟨z0, z1, z2, z3⟩ := HZ.out.two
  have H := Lib.hid (ret_box (F' := fun k => F k ∨ w.heap.size ≤ k) HZ.out HB.out (by omega) HAr.out (fun k hk => by omega) fun k hk => hk.elim (fun h => .inl h.1) fun h => .inr (by omega))
  clear hsz1
  go_wp2_with fail
  exact bodyPost_ret (v := .tuple #[.agg #[.slice (some ⟨b0, o0, none⟩) 4 c0, .slice Ai a.ints.length ci], .int .i64 1]) (by simp [results, Try.results58, go_sem, *]) rfl (by rw [HP.out]; exact ⟨_, rfl, H.out.1, H.out.2⟩)
theorem ref_Step (a : Arr) (s : Step) (v vs : Value) (F : Fp) {F2 : Fp} (w : World) (h : RdA w F v a) (hs : RdSt w F2 vs s) (hsh : Shape a.disks) (hno : a.ints = []) :
    Calls Try.prog 58 #[v, vs] w fun e w' => ∃ v', e = .returned (.tuple #[v', .int .i64 (stepR a s).2]) ∧ RdA w' (fun k => F k ∨ w.heap.size ≤ k) v' (stepR a s).1 ∧ Below w.heap.size w w' := by
  by_cases h1 : s.kind = 1
  · exact ref_Step_deed a s v vs F w h hs hsh hno h1
  by_cases h2 : s.kind = 2
  · exact ref_Step_fall a s v vs F w h hs hsh hno h2
  by_cases h3 : s.kind = 3
  · exact ref_Step_rot a s v vs F w h hs hsh hno h3
  by_cases h4 : s.kind = 4
  · exact ref_Step_gone a s v vs F w h hs hsh hno h4
  by_cases h5 : s.kind = 5
  · exact ref_Step_mend a s v vs F w h hs hsh hno h5
  exact ref_Step_none a s v vs F w h hs hsh hno h1 h2 h3 h4 h5
end Go.Proofs.Ytlbnkoahkfhimaa

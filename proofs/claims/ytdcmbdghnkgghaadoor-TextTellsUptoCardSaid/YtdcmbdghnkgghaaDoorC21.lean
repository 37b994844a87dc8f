/- Chapter 8: what array.Do computes: the walk. -/
import Derived.Test.YtdcmbdghnkgghaaDoorC20
namespace Go.Proofs.YtdcmbdghnkgghaaDoor
set_option linter.unusedVariables false
open Go Go.RowKit M
theorem array_OwnR (a : Arr) (v : Value) (F : Fp) (w : World) (h : RdA w F v a) (hsh : Shape a.disks) (hi : IntsOk a) :
    Calls Tryd.prog 36 #[v] w fun e w' => ∃ v', e = .returned v' ∧ RdA w' (fun k => w.heap.size ≤ k) v' a ∧ Below w.heap.size w w' := by
  refine (array_Own a v F w h hsh hi).mono ?_
  rintro e w' ⟨dv, iv, B, rfl, h1, h2, h3⟩
  exact ⟨_, rfl, ⟨_, _, rfl, okBBB.mono (disks_rd h1) fun k hk => hk.1, okIs.mono h2 fun k hk => hk.1⟩, h3⟩
theorem doA_okA {a : Arr} {d : Deed} (h : (planA a.disks d).2 = 0) : doA a d = (writeA a (planA a.disks d).1 6, 0) := by unfold doA; rw [if_neg (by simpa using h)]
set_option maxRecDepth 100000 in
set_option maxHeartbeats 1600000 in
theorem array_Do (a : Arr) (d : Deed) (v vd : Value) (F : Fp) {F2 : Fp} (w : World) (h : RdA w F v a) (hd : RdD w F2 vd d) (hsh : Shape a.disks) (hno : IntsOk a) :
    Calls Tryd.prog 34 #[v, vd] w fun e w' => ∃ v', e = .returned (.tuple #[v', .int .i64 (doA a d).2]) ∧ RdA w' (fun k => w.heap.size ≤ k) v' (doA a d).1 ∧ Below w.heap.size w w' := by
  obtain ⟨b0, o0, c0, Ai, ci, rfl, hD, hI, hc0, hc1⟩ := RdA_open h hsh
  obtain ⟨dv, rfl, hdv⟩ := hd
  replace hdv := okB.lt hdv
  obtain ⟨Ad, cd, rfl, _, _⟩ := hdv.shape
  obtain ⟨w1, hW, hA, hX, hZ, hB, hsz⟩ := boxes3 w [.slice (some ⟨b0, o0, none⟩) 4 c0, .slice Ai a.ints.length ci] [.int .i64 d.kind, .int .i64 d.n, .int .i64 d.m, .slice Ad d.data.length cd] [.slice none 0 0, .slice none 0 0] 37 24 37
  change (((w.alloc (.cells #[.slice (some ⟨b0, o0, none⟩) 4 c0, .slice Ai a.ints.length ci] 37)).alloc (.cells #[.int .i64 d.kind, .int .i64 d.n, .int .i64 d.m, .slice Ad d.data.length cd] 24)).alloc (.cells #[.slice none 0 0, .slice none 0 0] 37)) = w1 at hW
  have HSZ := Lib.hid hsz
  have HS := Lib.hid hsh
  have HNO := Lib.hid hno
  clear hsz hsh h hno
  obtain ⟨x0, x1, x2, x3⟩ := hA.two
  obtain ⟨y0, y1, y2, y3⟩ := hX.four
  go_enter Tryd.func34, Tryd.ntmps34
  go_wp2_with fail
  clear hW
  refine (array_Plan a d _ _ (fun k => F k ∧ k < w.heap.size) _ ⟨_, _, rfl, okBBB.grow hD hB, okIs.grow hI hB⟩ ⟨_, rfl, okB.grow hdv hB⟩ HS.out).mono ?_
  rintro e w2 ⟨v2, rfl, ⟨cv, rfl, hr2⟩, hb2⟩
  obtain ⟨Ac, cc, rfl, _, _⟩ := hr2.shape
  have hal := below_alloc w2 (.cells #[.int .i64 (planA a.disks d).1.1, .slice Ac (planA a.disks d).1.2.length cc] 78)
  have hs2 := hb2.size
  rw [HSZ.out] at hs2
  have hX3 := boxAt_new w2 78 [.int .i64 (planA a.disks d).1.1, .slice Ac (planA a.disks d).1.2.length cc]
  have hb3 := hb2.trans (hal.mono hb2.size)
  have hB3 := hB.trans (hb3.mono hB.size)
  have hA3 := hA.grow hb3
  have hZ3 := hZ.grow hb3
  have hr3 := okBB.mono (okBB.grow (okBB.lt hr2) hal) (F' := fun k => F k ∧ k < w.heap.size ∨ w.heap.size + 3 ≤ k) fun k hk => by have := HSZ.out; omega
  have hAr : RdA _ (fun k => F k ∧ k < w.heap.size ∨ w.heap.size + 3 ≤ k) (.agg #[.slice (some ⟨b0, o0, none⟩) 4 c0, .slice Ai a.ints.length ci]) a := ⟨_, _, rfl, okBBB.mono (okBBB.grow hD hB3) fun _ hk => .inl hk, okIs.mono (okIs.grow hI hB3) fun _ hk => .inl hk⟩
  obtain ⟨w3, hw3⟩ : ∃ x, w2.alloc (.cells #[.int .i64 (planA a.disks d).1.1, .slice Ac (planA a.disks d).1.2.length cc] 78) = x := ⟨_, rfl⟩
  change BoxAt (w2.alloc (.cells #[.int .i64 (planA a.disks d).1.1, .slice Ac (planA a.disks d).1.2.length cc] 78)) _ _ _ at hX3
  rw [hw3] at hX3 hB3 hA3 hZ3 hr3 hAr
  have HA3 := Lib.hid hA3
  have HB3 := Lib.hid hB3
  have HZ3 := Lib.hid hZ3
  have HR3 := Lib.hid hr3
  have HAr := Lib.hid hAr
  have HX3 := Lib.hid hX3
  clear hal hX3 hb3 hB3 hA3 hZ3 hr3 hAr hb2 hr2 hA hX hZ hB hD hI hdv x0 x1 x2 x3 y0 y1 y2 y3
  by_cases he : (planA a.disks d).2 = 0
  · have HP := Lib.hid (doA_okA he)
    obtain ⟨i1, i2, i3, i4⟩ := intOk_plan HS.out he
    rw [he]
    clear he
    generalize (planA a.disks d).1 = i at *
    rw [i3] at HR3 HX3 hw3 ⊢
    have HI1 := Lib.hid i1
    clear i1
    obtain ⟨x0, x1, x2, x3⟩ := HA3.out.two
    obtain ⟨y0, y1, y2, y3⟩ := HX3.out.two
    go_wp2_with fail
    refine (array_Write a i 6 _ _ (fun k => F k ∧ k < w.heap.size ∨ w.heap.size + 3 ≤ k) _ HAr.out ⟨_, rfl, HR3.out⟩ HS.out HNO.out ⟨HI1.out, i2, i3, i4⟩ (by decide) (by decide)).mono ?_
    rintro e w4 ⟨v4, rfl, hr4, hb4⟩
    have hsh4 : Shape (writeA a i 6).disks := putTo_shape HS.out _ i4 4
    obtain ⟨b5, o5, c5, A5, c6, rfl, _, _, _, _⟩ := RdA_open hr4 hsh4
    have hZ4 := HZ3.out.grow hb4
    obtain ⟨z0, z1, z2, z3⟩ := hZ4.two
    have hsz3 := HZ3.out.lt
    have H := Lib.hid (ret_box (F' := fun k => w.heap.size ≤ k) hZ4 (HB3.out.trans (hb4.mono HB3.out.size)) (by omega) hr4 (fun k hk => by omega) fun k hk => by omega)
    clear hZ4 hb4 hr4 x0 x1 x2 x3 y0 y1 y2 y3
    go_wp2_with fail
    exact bodyPost_ret (v := .tuple #[.agg #[.slice (some ⟨b5, o5, none⟩) 4 c5, .slice A5 (writeA a i 6).ints.length c6], .int .i64 0]) (by simp [results, Tryd.results34, go_sem, *]) rfl (by rw [HP.out]; exact ⟨_, rfl, H.out.1, H.out.2⟩)
  · have HP := Lib.hid (doA_bad he)
    have hne : ((planA a.disks d).2 != 0) = true := by simpa using he
    clear he
    generalize (planA a.disks d).2 = q at *
    generalize (planA a.disks d).1 = i at *
    obtain ⟨x0, x1, x2, x3⟩ := HA3.out.two
    go_wp2_with fail
    refine (array_OwnR a _ _ _ HAr.out HS.out HNO.out).mono ?_
    rintro e w4 ⟨v4, rfl, hr4, hb4⟩
    obtain ⟨b5, o5, c5, A5, c6, rfl, _, _, _, _⟩ := RdA_open hr4 HS.out
    have hZ4 := HZ3.out.grow hb4
    obtain ⟨z0, z1, z2, z3⟩ := hZ4.two
    have hsz3 := HZ3.out.lt
    have H := Lib.hid (ret_box (F' := fun k => w.heap.size ≤ k) hZ4 (HB3.out.trans (hb4.mono HB3.out.size)) (by omega) hr4 (fun k hk => by omega) fun k hk => by omega)
    clear hZ4 hb4 hr4 x0 x1 x2 x3
    go_wp2_with fail
    exact bodyPost_ret (v := .tuple #[.agg #[.slice (some ⟨b5, o5, none⟩) 4 c5, .slice A5 a.ints.length c6], .int .i64 q]) (by simp [results, Tryd.results34, go_sem, *]) rfl (by rw [HP.out]; exact ⟨_, rfl, H.out.1, H.out.2⟩)
end Go.Proofs.YtdcmbdghnkgghaaDoor

/- Chapters 8, 9: what the reference's Mend computes. -/
import Derived.Test.YtlbnkoahkfhimaaC9
namespace Go.Proofs.Ytlbnkoahkfhimaa
set_option linter.unusedVariables false
open Go Go.RowKit M
set_option maxRecDepth 100000 in
set_option maxHeartbeats 4000000 in
theorem ref_Mend (a : Arr) (s : Int) (v : Value) (F : Fp) (w : World) (h : RdA w F v a) (hsh : Shape a.disks) :
    Calls Try.prog 47 #[v, .int .i64 s] w fun e w' => ∃ v', e = .returned (.tuple #[v', .int .i64 (mendA a s).2.1, .int .i64 (mendA a s).2.2]) ∧ RdA w' (fun k => F k ∨ w.heap.size ≤ k) v' (mendA a s).1 ∧ Below w.heap.size w w' := by
  obtain ⟨b0, o0, c0, Ai, ci, rfl, hD, hI, hc0, hc1⟩ := RdA_open h hsh
  obtain ⟨hA, hZ, hB, hsz⟩ := two_boxes w (.slice (some ⟨b0, o0, none⟩) 4 c0) (.slice Ai a.ints.length ci) 41
  have hAr : RdA _ (fun k => F k ∧ k < w.heap.size ∨ w.heap.size + 2 ≤ k) (.agg #[.slice (some ⟨b0, o0, none⟩) 4 c0, .slice Ai a.ints.length ci]) a := ⟨_, _, rfl, okBBB.mono (okBBB.grow hD hB) fun _ hk => .inl hk, okIs.mono (okIs.grow hI hB) fun _ hk => .inl hk⟩
  have HSZ := Lib.hid hsz
  have HS := Lib.hid hsh
  obtain ⟨x0, x1, x2, x3⟩ := hA.two
  by_cases hs : s < 0 ∨ 3 ≤ s
  · have HP := Lib.hid (mend_out (a := a) hs)
    have hB0 := below_alloc w (.cells #[.slice (some ⟨b0, o0, none⟩) 4 c0, .slice Ai a.ints.length ci] 41)
    have hB2 := hB0.trans ((below_alloc (w.alloc (.cells #[.slice (some ⟨b0, o0, none⟩) 4 c0, .slice Ai a.ints.length ci] 41)) (.cells #[.slice (some ⟨b0, o0, none⟩) 4 c0, .slice Ai a.ints.length ci] 41)).mono hB0.size)
    have hA2 : RdA _ (fun k => F k ∨ w.heap.size ≤ k) _ a := RdA.mono (F := fun k => F k ∧ k < w.heap.size) ⟨_, _, rfl, okBBB.grow hD hB2, okIs.grow hI hB2⟩ fun k hk => .inl hk.1
    obtain ⟨z0, z1, z2, z3⟩ := hZ.two
    have H := Lib.hid (And.intro hA2 hB2)
    clear hA hZ hB hsz hAr h hD hI hsh hB0 hB2 hA2
    rcases hs with hs | hs
    · go_enter Try.func47, Try.ntmps47
      go_wp2_with fail
      exact bodyPost_ret (v := .tuple #[.agg #[.slice (some ⟨b0, o0, none⟩) 4 c0, .slice Ai a.ints.length ci], .int .i64 0, .int .i64 3]) (by simp [results, Try.results47, go_sem, *]) rfl (by rw [HP.out]; exact ⟨_, rfl, H.out.1, H.out.2⟩)
    · have d1 : decide (2 < s) = true := by simp; omega
      have d2 : decide (s < 0) = false := by simp; omega
      go_enter Try.func47, Try.ntmps47
      go_wp2_with fail
      exact bodyPost_ret (v := .tuple #[.agg #[.slice (some ⟨b0, o0, none⟩) 4 c0, .slice Ai a.ints.length ci], .int .i64 0, .int .i64 3]) (by simp [results, Try.results47, go_sem, *]) rfl (by rw [HP.out]; exact ⟨_, rfl, H.out.1, H.out.2⟩)
  obtain ⟨s, rfl⟩ := Int.eq_ofNat_of_zero_le (show 0 ≤ s by omega)
  have hs3 : s < 3 := by omega
  have d1 : decide (2 < (s : Int)) = false := by simp; omega
  have d2 : decide ((s : Int) < 0) = false := by simp
  have HA := Lib.hid hA
  have HZ := Lib.hid hZ
  have HB := Lib.hid hB
  have HAr := Lib.hid hAr
  have ML := Lib.hid (@mend_lost a s hs3)
  have MH := Lib.hid (@mend_had a s hs3)
  clear hA hZ hB hsz hAr h hD hI hsh hs
  go_enter Try.func47, Try.ntmps47
  go_wp2_with fail
  generalize (w.alloc (.cells #[.slice (some ⟨b0, o0, none⟩) 4 c0, .slice Ai a.ints.length ci] 41)).alloc (.cells #[.slice none 0 0, .slice none 0 0] 41) = w1 at *
  refine (ref_Cells a s _ _ _ HAr.out HS.out hs3).mono ?_
  rintro e w2 ⟨v2, rfl, hv2, hb2⟩
  have hr2 := hv2.toRd_ okB
  have HL := Lib.hid (show (cellsA a.disks s).length = 4 by rw [cellsA_len, HS.out.1])
  clear hv2
  go_wp2_with fail
  refine (ref_Bad _ s _ _ _ hr2 (by rw [HL.out]; decide)).mono ?_
  rintro e w3 ⟨v3, rfl, hv3, hb3⟩
  obtain ⟨A3, c3, rfl, _, _⟩ := (hv3.toRd_ okI).shape
  rw [ints_len]
  have hr3 := okBB.grow hr2 hb3
  clear hv3 hr2
  go_wp2_with fail
  refine (ref_Data (cellsA a.disks s) s _ _ _ hr3 (by rw [HL.out]; decide)).mono ?_
  rintro e w4 ⟨v4, rfl, hv4, hb4⟩
  have hb24 := hb2.trans ((hb3.trans (hb4.mono hb3.size)).mono hb2.size)
  have HA4 := Lib.hid (HA.out.grow hb24)
  have HZ4 := Lib.hid (HZ.out.grow hb24)
  have HB4 := Lib.hid (HB.out.trans (hb24.mono HB.out.size))
  have HAr4 := Lib.hid (HAr.out.grow hb24)
  clear hb2 hb3 hb4 hb24 hr3 HA HZ HB HAr x0 x1 x2 x3
  by_cases h9 : (dataL (cellsA a.disks s) s).2 = 0
  rotate_left
  · have HP := Lib.hid (ML.out h9)
    obtain ⟨x0, x1, x2, x3⟩ := HA4.out.two
    obtain ⟨z0, z1, z2, z3⟩ := HZ4.out.two
    have H := Lib.hid (ret_box (F' := fun k => F k ∨ w.heap.size ≤ k) HZ4.out HB4.out (by omega) HAr4.out (fun k hk => by omega) fun k hk => hk.elim (fun h => .inl h.1) fun h => .inr (by omega))
    have hne : ((dataL (cellsA a.disks s) s).2 != 0) = true := by simpa using h9
    clear h9 hv4 ML MH
    generalize (dataL (cellsA a.disks s) s).2 = q at *
    go_wp2_with fail
    exact bodyPost_ret (v := .tuple #[.agg #[.slice (some ⟨b0, o0, none⟩) 4 c0, .slice Ai a.ints.length ci], .int .i64 ((badL (cellsA a.disks s) s).length : Nat), .int .i64 q]) (by simp [results, Try.results47, go_sem, *]) rfl (by rw [HP.out]; exact ⟨_, rfl, H.out.1, H.out.2⟩)
  have HP := Lib.hid (MH.out h9)
  obtain ⟨q1, q2, _⟩ := data_blocks h9
  rw [HL.out] at q1
  rw [h9]
  have hr4 := hv4.toRd_ okB
  clear h9 ML MH hv4
  obtain ⟨D, hDD⟩ : ∃ D, (dataL (cellsA a.disks s) s).1 = D := ⟨_, rfl⟩
  rw [hDD] at q1 q2 hr4 HP
  obtain ⟨A4, c4, rfl, _, _⟩ := hr4.shape
  rw [q1] at hr4 ⊢
  have HQ2 := Lib.hid q2
  have hml : (makeL D s).length = 4 := by rw [makeL_len, q1]
  have HML := Lib.hid (make_lens q2 s)
  generalize (badL (cellsA a.disks s) s).length = nb at *
  clear hDD
  go_wp2_with fail
  refine (ref_Make D s _ _ _ hr4 (by omega) (by rw [q1]; decide) q2).mono ?_
  rintro e w5 ⟨v5, rfl, hv5, hb5⟩
  have hr5 := hv5.toRd okB (R' := RdB) (fun h => h) okB
  generalize makeL D s = M at *
  obtain ⟨b5, o5, c5, rfl, _, _, hc5, hc5m⟩ := hr5.form (by omega)
  unfold maxLen at hc5m
  rw [hml] at hr5 hc5 ⊢
  have HB5 := Lib.hid (HB4.out.trans (hb5.mono HB4.out.size))
  have HR5 := Lib.hid (okBB.lt hr5)
  have HA5 := Lib.hid (HA4.out.grow hb5)
  have HZ5 := Lib.hid (HZ4.out.grow hb5)
  have HAr5 := Lib.hid (HAr4.out.grow hb5)
  have hs4 : w.heap.size + 2 ≤ w4.heap.size := by have := HZ4.out.lt; omega
  have hs45 := hb5.size
  clear hr5 hr4 hv5 hb5 q2 HA4 HZ4 HB4 HAr4
  go_wp2_with fail
  rename World => w5
  go_loopw [42] (fun i wr => ∃ k : Nat, k ≤ 4 ∧ i = .int .i64 k ∧ (∃ dv iv, BoxAt wr w.heap.size 41 [dv, iv] ∧ RdA wr (fun k => F k ∧ k < w.heap.size ∨ w.heap.size + 2 ≤ k) (.agg #[dv, iv]) ⟨putTo a.disks s M k, a.ints⟩) ∧ BoxAt wr (w.heap.size + 1) 41 [.slice none 0 0, .slice none 0 0] ∧ RdBB wr (fun k => w4.heap.size ≤ k ∧ k < w5.heap.size) (.slice (some ⟨b5, o5, none⟩) 4 c5) M ∧ Below w.heap.size w wr ∧ w.heap.size + 2 ≤ wr.heap.size) (fun i _ => 4 - (intOf i).toNat)
  case atStart => exact ⟨0, Nat.zero_le _, rfl, ⟨_, _, HA5.out, HAr5.out⟩, HZ5.out, HR5.out, HB5.out, by omega⟩
  case round =>
    obtain ⟨k, hk, rfl, ⟨dv, iv, hA2, hR2⟩, hZ2, hM2, hB2, hs2⟩ := hrel
    have hskm : Shape (putTo a.disks s M k) := putTo_shape HS.out s HML.out k
    obtain ⟨b1, o1, c1, A1, c2, hag, _, _, hc11, hc12⟩ := RdA_open hR2 hskm
    injection hag with hag
    simp only [Array.mk.injEq, List.cons.injEq, and_true] at hag
    obtain ⟨rfl, rfl⟩ := hag
    obtain ⟨x0, x1, x2, x3⟩ := hA2.two
    by_cases hlt : k < 4
    · have hkm : k < M.length := by omega
      obtain ⟨u, hu, hRu⟩ := RdL_q hM2 (k := k) (x := M[k]) (List.getElem?_eq_getElem hkm)
      obtain ⟨Ax, cx, rfl, _, _⟩ := hRu.shape
      have HN := Lib.hid (show putTo a.disks s M (k + 1) = setA (putTo a.disks s M k) k s M[k] by rw [putTo_next]; simp [List.getD, List.getElem?_eq_getElem hkm])
      have HX := Lib.hid (And.intro hR2 (okB.mono hRu (F' := fun k => F k ∧ k < w.heap.size ∨ w.heap.size + 2 ≤ k) fun k hk => .inr (by omega)))
      have H1 := Lib.hid (And.intro hA2 (And.intro hZ2 (And.intro hM2 (And.intro hB2 hs2))))
      have HSK := Lib.hid hskm
      clear hA2 hR2 hZ2 hM2 hB2 hs2 hRu hskm
      go_wp2_with fail
      refine (ref_with ⟨putTo a.disks s M k, a.ints⟩ k s M[k] _ _ _ _ HX.out.1 HX.out.2 HSK.out hlt hs3).mono ?_
      rintro e w6 ⟨v6, rfl, hr6, hb6⟩
      rw [← HN.out] at hr6
      have hsh6 : Shape (putTo a.disks s M (k + 1)) := putTo_shape HS.out s HML.out (k + 1)
      obtain ⟨b7, o7, c7, A7, c8, rfl, _, _, _, _⟩ := RdA_open hr6 hsh6
      have hA6 := H1.out.1.grow hb6
      have hZ6 := H1.out.2.1.grow hb6
      obtain ⟨z0, z1, z2, z3⟩ := hA6.two
      have g1 : BoxAt (set2 w6 w.heap.size (.slice (some ⟨b7, o7, none⟩) 4 c7) (.slice A7 a.ints.length c8)) _ _ _ := hA6.put2
      have g2 : BoxAt (set2 w6 w.heap.size (.slice (some ⟨b7, o7, none⟩) 4 c7) (.slice A7 a.ints.length c8)) _ _ _ := hZ6.far2 (by omega)
      have g3 : RdA (set2 w6 w.heap.size (.slice (some ⟨b7, o7, none⟩) 4 c7) (.slice A7 a.ints.length c8)) _ _ _ := hr6.set2 (b := w.heap.size) fun k hk => by have := H1.out.2.2.2.2; rcases hk with (hk | hk) | hk <;> omega
      have g4 := (H1.out.2.2.2.1.trans (hb6.mono H1.out.2.2.2.1.size)).trans (below_set2 (b := w.heap.size) (v0 := .slice (some ⟨b7, o7, none⟩) 4 c7) (v1 := .slice A7 a.ints.length c8) (Nat.le_refl _))
      have g5 : RdBB (set2 w6 w.heap.size (.slice (some ⟨b7, o7, none⟩) 4 c7) (.slice A7 a.ints.length c8)) _ _ _ := okBB.set2 (okBB.grow H1.out.2.2.1 hb6) (b := w.heap.size) fun k hk => by omega
      have g6 : w.heap.size + 2 ≤ (set2 w6 w.heap.size (.slice (some ⟨b7, o7, none⟩) 4 c7) (.slice A7 a.ints.length c8)).heap.size := by rw [set2_size]; exact Nat.le_trans H1.out.2.2.2.2 hb6.size
      have H := Lib.hid (And.intro g1 (And.intro (g3.mono (F' := fun k => F k ∧ k < w.heap.size ∨ w.heap.size + 2 ≤ k) fun k hk => hk.elim id fun h => .inr (Nat.le_trans H1.out.2.2.2.2 h)) (And.intro g2 (And.intro g5 (And.intro g4 g6)))))
      clear g1 g2 g3 g4 g5 g6 hr6 hb6 hA6 hZ6 x0 x1 x2 x3
      go_wp2_with fail
      go_roundw
      case rel => exact ⟨k + 1, by omega, by go_num, ⟨_, _, H.out.1, H.out.2.1⟩, H.out.2.2.1, H.out.2.2.2.1, H.out.2.2.2.2.1, H.out.2.2.2.2.2⟩
      case measure => simp [intOf]; omega
    · obtain rfl : k = 4 := by omega
      obtain ⟨z0, z1, z2, z3⟩ := hZ2.two
      have H := Lib.hid (ret_box (F' := fun k => F k ∨ w.heap.size ≤ k) hZ2 hB2 (by omega) hR2 (fun k hk => by omega) fun k hk => hk.elim (fun h => .inl h.1) fun h => .inr (by omega))
      clear hA2 hR2 hZ2 hM2 hB2 hskm
      go_wp2_with fail
      exact bodyPost_ret (v := .tuple #[.agg #[.slice (some ⟨b1, o1, none⟩) 4 c1, .slice A1 a.ints.length c2], .int .i64 (nb : Nat), .int .i64 0]) (by simp [results, Try.results47, go_sem, *]) rfl (by rw [HP.out]; exact ⟨_, rfl, H.out.1, H.out.2⟩)
end Go.Proofs.Ytlbnkoahkfhimaa

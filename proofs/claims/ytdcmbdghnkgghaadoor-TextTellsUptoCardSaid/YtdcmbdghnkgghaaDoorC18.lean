/- Chapter 8: what array.Mount computes. -/
import Derived.Test.YtdcmbdghnkgghaaDoorC17
namespace Go.Proofs.YtdcmbdghnkgghaaDoor
set_option linter.unusedVariables false
open Go Go.RowKit M
theorem mountTo_nextA {a : Arr} {k : Nat} {i : Int × List Bs} (h : a.ints[k]? = some i) : mountTo a (k + 1) = writeA (mountTo a k) i 6 := by
  rw [mountTo_next h]; rfl
theorem ints_ok {a : Arr} (h : IntsOk a) : ∀ i ∈ a.ints, IntOk i := by
  rcases h with h | ⟨i, h, hi⟩
  · rw [h]; intro i hm; cases hm
  · rw [h]; intro j hm; rw [List.mem_singleton] at hm; rw [hm]; exact hi
theorem mountTo_ints {a : Arr} (h : IntsOk a) {k : Nat} (hk : k ≤ a.ints.length) : IntsOk (mountTo a k) := by
  rcases Nat.eq_zero_or_pos k with h0 | h0
  · subst h0; exact h
  · obtain ⟨j, rfl⟩ : ∃ j, k = j + 1 := ⟨k - 1, by omega⟩
    rw [mountTo_nextA (List.getElem?_eq_getElem (show j < a.ints.length by omega))]
    exact .inl rfl
set_option maxRecDepth 100000 in
set_option maxHeartbeats 1600000 in
theorem array_Mount (a : Arr) (v : Value) (F : Fp) (w : World) (h : RdA w F v a) (hsh : Shape a.disks) (hi : IntsOk a) :
    Calls Tryd.prog 37 #[v] w fun e w' => ∃ v', e = .returned v' ∧ RdA w' (fun k => w.heap.size ≤ k) v' (mountA a) ∧ Below w.heap.size w w' := by
  obtain ⟨b0, o0, c0, Ai, ci, rfl, hD, hI, hc0, hc1⟩ := RdA_open h hsh
  obtain ⟨hA, hR, hB, hsz⟩ := two_boxes w (.slice (some ⟨b0, o0, none⟩) 4 c0) (.slice Ai a.ints.length ci) 37
  have hI1 := okIs.grow (okIs.lt hI) hB
  have HSZ := Lib.hid hsz
  have HS := Lib.hid hsh
  have HI := Lib.hid hi
  have hle := ints_le hi
  clear hsz hsh hi h
  obtain ⟨x0, x1, x2, x3⟩ := hA.two
  go_enter Tryd.func37, Tryd.ntmps37
  go_wp2_with fail
  generalize (w.alloc (.cells #[.slice (some ⟨b0, o0, none⟩) 4 c0, .slice Ai a.ints.length ci] 37)).alloc (.cells #[.slice none 0 0, .slice none 0 0] 37) = w1 at *
  clear x0 x1 x2 x3
  have hA1 : RdA w1 (fun k => F k ∧ k < w.heap.size) (.agg #[.slice (some ⟨b0, o0, none⟩) 4 c0, .slice Ai a.ints.length ci]) a := ⟨_, _, rfl, okBBB.grow hD hB, okIs.grow hI hB⟩
  refine (array_Own a _ _ _ hA1 HS.out HI.out).mono ?_
  rintro e w2 ⟨dv, iv, B, rfl, hO, hIs, hb2⟩
  rw [HSZ.out] at hO hIs
  have hgrow : w.heap.size + 2 ≤ w2.heap.size := by rw [← HSZ.out]; exact hb2.size
  obtain ⟨g, cg, rfl, hg0, hg1, hcg, hcgm⟩ := hO.form (by rw [HS.out.1]; decide)
  rw [HS.out.1] at hO hcg ⊢
  unfold maxLen at hcgm
  obtain ⟨Av, cv, rfl, _, _⟩ := hIs.shape
  have hal := below_alloc w2 (.cells #[.slice (some ⟨g, 0, none⟩) 4 cg, .slice Av a.ints.length cv] 37)
  have hO0 := boxAt_new w2 37 [.slice (some ⟨g, 0, none⟩) 4 cg, .slice Av a.ints.length cv]
  have hb3 := hb2.trans (hal.mono hb2.size)
  have hX3 := hA.grow hb3
  have hZ3 := hR.grow hb3
  have hI3 := okIs.grow (okIs.lt hI1) hb3
  have hr3 : RdA (w2.alloc (.cells #[.slice (some ⟨g, 0, none⟩) 4 cg, .slice Av a.ints.length cv] 37)) (fun q => w.heap.size + 2 ≤ q ∧ q ≠ w2.heap.size) (.agg #[.slice (some ⟨g, 0, none⟩) 4 cg, .slice Av a.ints.length cv]) (mountTo a 0) := ⟨_, _, rfl, okBBB.mono (okBBB.grow (okBBB.lt (disks_rd hO)) hal) fun q hq => by omega, okIs.mono (okIs.grow (okIs.lt hIs) hal) fun q hq => by omega⟩
  obtain ⟨x0, x1, x2, x3⟩ := hX3.two
  obtain ⟨o0', o1, o2, o3⟩ := hO0.two
  go_wp2_with fail
  obtain ⟨BO, hBO⟩ : ∃ x, w2.heap.size = x := ⟨_, rfl⟩
  obtain ⟨w3, hw3⟩ : ∃ x, w2.alloc (.cells #[.slice (some ⟨g, 0, none⟩) 4 cg, .slice Av a.ints.length cv] 37) = x := ⟨_, rfl⟩
  have hs3 : BO + 1 ≤ w3.heap.size := by rw [← hw3, ← hBO]; simp
  rw [hw3] at hal hO0 hb3 hX3 hZ3 hI3 hr3 ⊢
  rw [hBO] at hal hO0 hr3 hgrow ⊢
  have hw31 : Below w.heap.size w w3 := hB.trans (hb3.mono (by rw [HSZ.out]; omega))
  clear hw3 hBO hb2 hO hIs hA hR hB hI1 hD hI hA1 x0 x1 x2 x3 o0' o1 o2 o3 hb3 hal
  go_loopw [11] (fun i wr => ∃ k : Nat, k ≤ a.ints.length ∧ i = .int .i64 k ∧ (∃ dv iv, BoxAt wr BO 37 [dv, iv] ∧ RdA wr (fun q => w.heap.size + 2 ≤ q ∧ q ≠ BO) (.agg #[dv, iv]) (mountTo a k)) ∧ Below BO w3 wr ∧ BO + 1 ≤ wr.heap.size) (fun i _ => a.ints.length - (intOf i).toNat)
  case atStart => exact ⟨0, Nat.zero_le _, rfl, ⟨_, _, hO0, hr3⟩, Below.refl _ _, hs3⟩
  case round =>
    obtain ⟨k, hk, rfl, ⟨dv, iv, hA2, hR2⟩, hB2, hs2⟩ := hrel
    have hskm := mountTo_shape HS.out (ints_ok HI.out) k
    have hikm := mountTo_ints HI.out hk
    obtain ⟨b1, o1, c1, A1, c2, hag, _, _, hc11, hc12⟩ := RdA_open hR2 hskm
    injection hag with hag
    simp only [Array.mk.injEq, List.cons.injEq, and_true] at hag
    obtain ⟨rfl, rfl⟩ := hag
    have hX4 := hX3.keep hB2 (by omega)
    have hZ4 := hZ3.keep hB2 (by omega)
    have hI4 := okIs.below hI3 hB2 (fun q hq _ => by omega)
    obtain ⟨x0, x1, x2, x3⟩ := hA2.two
    by_cases hlt : k < a.ints.length
    · obtain ⟨i, hik⟩ : ∃ i, a.ints[k]? = some i := ⟨_, List.getElem?_eq_getElem hlt⟩
      obtain ⟨bi, oi, cc, u, hag, _, hcm, g0, g1, gR⟩ := hI4.q hik
      injection hag with e1 e2 e3
      subst e1; subst e3
      unfold maxLen at hcm
      have hok := ints_ok HI.out i (List.mem_of_getElem? hik)
      obtain ⟨A4, c4, rfl, _, _⟩ := gR.shape
      have hlen4 := hok.2.2.1
      rw [hlen4] at g1 gR
      have hal := below_alloc wr (.cells #[.int .i64 i.1, .slice A4 4 c4] 78)
      have hAl := hA2.alloc (.cells #[.int .i64 i.1, .slice A4 4 c4] 78)
      obtain ⟨p0, p1, p2, p3⟩ := hAl.two
      have HN := Lib.hid (mountTo_nextA hik)
      have HOK := Lib.hid hok
      have HSK := Lib.hid (And.intro hskm hikm)
      have HR := Lib.hid (And.intro (hR2.grow hal) (okBB.grow gR hal))
      have H1 := Lib.hid (And.intro hAl (And.intro (hB2.trans (hal.mono (by omega))) (Nat.le_trans hs2 hal.size)))
      clear hok hal hAl hA2 hR2 hB2 hs2 gR hik hskm hlen4 hikm
      go_wp2_with fail
      refine (array_Write (mountTo a k) i 6 _ _ _ _ HR.out.1 ⟨_, rfl, HR.out.2⟩ HSK.out.1 HSK.out.2 HOK.out (by decide) (by decide)).mono ?_
      rintro e w4 ⟨v2, rfl, hr2, hb2⟩
      rw [← HN.out] at hr2
      have hsh2 := mountTo_shape HS.out (ints_ok HI.out) (k + 1)
      obtain ⟨b3, o3, c3, A3, c5, rfl, _, _, _, _⟩ := RdA_open hr2 hsh2
      have hA2 := H1.out.1.grow hb2
      obtain ⟨z0, z1, z2, z3⟩ := hA2.two
      have hA3 : BoxAt (set2 w4 BO (.slice (some ⟨b3, o3, none⟩) 4 c3) (.slice A3 (mountTo a (k + 1)).ints.length c5)) _ _ _ := hA2.put2
      have hr3' : RdA (set2 w4 BO (.slice (some ⟨b3, o3, none⟩) 4 c3) (.slice A3 (mountTo a (k + 1)).ints.length c5)) _ _ _ := hr2.set2 (b := BO) fun q hq => by have := H1.out.2.2; omega
      have hb3 := (H1.out.2.1.trans (hb2.mono (Nat.le_trans (Nat.le_succ _) H1.out.2.2))).trans (below_set2 (b := BO) (v0 := .slice (some ⟨b3, o3, none⟩) 4 c3) (v1 := .slice A3 (mountTo a (k + 1)).ints.length c5) (Nat.le_refl _))
      have hs3 : BO + 1 ≤ (set2 w4 BO (.slice (some ⟨b3, o3, none⟩) 4 c3) (.slice A3 (mountTo a (k + 1)).ints.length c5)).heap.size := by rw [set2_size]; exact Nat.le_trans H1.out.2.2 hb2.size
      have H := Lib.hid (And.intro hA3 (And.intro (hr3'.mono (F' := fun q => w.heap.size + 2 ≤ q ∧ q ≠ BO) fun q hq => by have := H1.out.2.2; omega) (And.intro hb3 hs3)))
      clear hA3 hr3' hb3 hs3 hr2 hb2 hA2 x0 x1 x2 x3 p0 p1 p2 p3 hX4 hZ4 hI4
      go_wp2_with fail
      go_roundw
      case rel => exact ⟨k + 1, by omega, by go_num, ⟨_, _, H.out.1, H.out.2.1⟩, H.out.2.2.1, H.out.2.2.2⟩
      case measure => simp [intOf]; omega
    · obtain rfl : k = a.ints.length := by omega
      obtain ⟨y0, y1, y2, y3⟩ := hZ4.two
      have HRET := Lib.hid (ret_box (F' := fun q => w.heap.size ≤ q) hZ4 (hw31.trans (hB2.mono (by omega))) (by omega) hR2 (fun q hq => by omega) fun q hq => by omega)
      clear hR2 hA2 hX4 hZ4 hB2 hI4 hskm hikm hX3 hZ3 hI3 hr3 hO0 hw31
      go_wp2_with fail
      exact bodyPost_ret (v := .agg #[.slice (some ⟨b1, o1, none⟩) 4 c1, .slice A1 (mountTo a a.ints.length).ints.length c2]) (by simp [results, Tryd.results37, go_sem, *]) rfl ⟨_, rfl, HRET.out.1, HRET.out.2⟩
end Go.Proofs.YtdcmbdghnkgghaaDoor

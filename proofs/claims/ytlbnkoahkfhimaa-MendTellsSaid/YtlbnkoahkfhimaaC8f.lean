/- Chapter 8: what the reference's Write and Mount compute. -/
import Derived.Test.YtlbnkoahkfhimaaC8e
import Derived.Test.YtlbnkoahkfhimaaPureE
namespace Go.Proofs.Ytlbnkoahkfhimaa
set_option linter.unusedVariables false
open Go Go.RowKit M
/-- So many writes of an intent. -/
def wrTo (a : Arr) (i : Int × List Bs) (m : Nat) : Arr := ⟨putTo a.disks i.1.toNat i.2 (min (m - 1) 4), if 5 < m then [] else if 0 < m then [i] else a.ints⟩
theorem wrTo_zero (a : Arr) (i : Int × List Bs) : wrTo a i 0 = a := rfl
theorem wrTo_one (a : Arr) (i : Int × List Bs) : wrTo a i 1 = ⟨a.disks, [i]⟩ := rfl
theorem wrTo_six (a : Arr) (i : Int × List Bs) : wrTo a i 6 = ⟨(wrTo a i 5).disks, []⟩ := rfl
theorem wrTo_cell (a : Arr) (i : Int × List Bs) {m : Nat} (h1 : 1 ≤ m) (h4 : m ≤ 4) : wrTo a i (m + 1) = ⟨setA (wrTo a i m).disks (m - 1) i.1.toNat (i.2.getD (m - 1) []), (wrTo a i m).ints⟩ := by
  have e1 : ¬ 5 < m + 1 := by omega
  have e2 : ¬ 5 < m := by omega
  have e3 : 0 < m + 1 := by omega
  have e4 : 0 < m := by omega
  unfold wrTo
  rw [show min (m + 1 - 1) 4 = (m - 1) + 1 by omega, show min (m - 1) 4 = m - 1 by omega, putTo_next, if_neg e1, if_neg e2, if_pos e3, if_pos e4]
theorem wrTo_all (a : Arr) (i : Int × List Bs) (n : Int) {m : Nat} (h : (m : Int) = min (max n 0) 6) : wrTo a i m = writeR a i n := by
  unfold wrTo writeR writeK cellsR
  rw [show min (m - 1) 4 = (min (max (n - 1) 0) 4).toNat by omega]
  by_cases h5 : 5 < n
  · rw [if_pos (by omega), if_pos h5]
  · rw [if_neg (by omega), if_neg h5]
    by_cases h0 : 0 < n
    · rw [if_pos (by omega), if_pos h0]
    · rw [if_neg (by omega), if_neg h0]
theorem wrTo_shape {a : Arr} (h : Shape a.disks) {i : Int × List Bs} (hl : ∀ c ∈ i.2, c.length ≤ 8) (m : Nat) : Shape (wrTo a i m).disks := putTo_shape h _ hl _
/-- An intent. -/
def RdI : Rel (Int × List Bs) := fun w F v i => ∃ cv, v = .agg #[.int .i64 i.1, cv] ∧ RdBB w F cv i.2
/-- Three boxes. -/
theorem three_boxes (w : World) (v0 v1 i0 i1 : Value) (T T' : TypeId) : ∃ w1, (((w.alloc (.cells #[v0, v1] T)).alloc (.cells #[i0, i1] T')).alloc (.cells #[.slice none 0 0, .slice none 0 0] T)) = w1 ∧ BoxAt w1 w.heap.size T [v0, v1] ∧ BoxAt w1 (w.heap.size + 1) T' [i0, i1] ∧ BoxAt w1 (w.heap.size + 1 + 1) T [.slice none 0 0, .slice none 0 0] ∧ Below w.heap.size w w1 ∧ w1.heap.size = w.heap.size + 3 := by
  have h0 := boxAt_new w T [v0, v1]
  have h1 := below_alloc w (.cells #[v0, v1] T)
  have h2 := boxAt_new (w.alloc (.cells #[v0, v1] T)) T' [i0, i1]
  have h3 := below_alloc (w.alloc (.cells #[v0, v1] T)) (.cells #[i0, i1] T')
  have h4 := boxAt_new ((w.alloc (.cells #[v0, v1] T)).alloc (.cells #[i0, i1] T')) T [.slice none 0 0, .slice none 0 0]
  have h5 := below_alloc ((w.alloc (.cells #[v0, v1] T)).alloc (.cells #[i0, i1] T')) (.cells #[.slice none 0 0, .slice none 0 0] T)
  rw [alloc_size] at h2
  rw [alloc_size, alloc_size] at h4
  refine ⟨_, rfl, (h0.grow h3).grow h5, h2.grow h5, h4, (h1.trans (h3.mono h1.size)).trans (h5.mono (Nat.le_trans h1.size h3.size)), by rw [alloc_size, alloc_size, alloc_size]⟩
theorem RdA.parts {w : World} {F : Fp} {dv iv : Value} {a : Arr} (h : RdA w F (.agg #[dv, iv]) a) : RdBBB w F dv a.disks ∧ RdIs w F iv a.ints := by
  obtain ⟨dv', iv', hag, h1, h2⟩ := h
  injection hag with hag
  simp only [Array.mk.injEq, List.cons.injEq, and_true] at hag
  obtain ⟨rfl, rfl⟩ := hag
  exact ⟨h1, h2⟩
theorem wrap_nat {j : Nat} (h : j < 9223372036854775808) : IntKind.i64.wrap ((j : Nat) : Int) = (j : Int) := by
  rw [IntKind.wrap_i64]
  omega
def Ra (F : Fp) (a : Arr) : Know := fun w v => RdA w F v a
theorem mRa (F : Fp) (a : Arr) : Mono (Ra F a) := fun _ _ _ hb h => h.grow hb
set_option maxRecDepth 100000 in
set_option maxHeartbeats 1600000 in
theorem ref_Write (a : Arr) (i : Int × List Bs) (n : Int) (v vi : Value) (F : Fp) (w : World) (h : RdA w F v a) (hi : RdI w F vi i) (hsh : Shape a.disks) (hi3 : i.1 = ((i.1.toNat : Nat) : Int)) (his : i.1.toNat < 3) (hil : i.2.length = 4) (hic : ∀ c ∈ i.2, c.length ≤ 8) :
    Calls Try.prog 73 #[v, vi, .int .i64 n] w fun e w' => ∃ v', e = .returned v' ∧ RdA w' (fun k => F k ∨ w.heap.size ≤ k) v' (writeR a i n) ∧ Below w.heap.size w w' := by
  obtain ⟨b0, o0, c0, Ai, ci, rfl, hD, hI, hc0, hc1⟩ := RdA_open h hsh
  obtain ⟨cv, rfl, hC⟩ := hi
  replace hC := okBB.lt hC
  obtain ⟨bc, oc, cc, rfl, hFbc, _, hcc, hcm⟩ := hC.form (by rw [hil]; decide)
  rw [hil] at hC hcc ⊢
  unfold maxLen at hcm
  obtain ⟨s, hs⟩ : ∃ s : Nat, i.1.toNat = s := ⟨_, rfl⟩
  rw [hs] at hi3 his
  rw [hi3]
  obtain ⟨w1, hW, hA, hX, hR, hB, hsz⟩ := three_boxes w (.slice (some ⟨b0, o0, none⟩) 4 c0) (.slice Ai a.ints.length ci) (.int .i64 (s : Int)) (.slice (some ⟨bc, oc, none⟩) 4 cc) 41 88
  have hA1 : RdA w1 (fun k => F k ∧ k < w.heap.size ∨ w.heap.size + 3 ≤ k) (.agg #[.slice (some ⟨b0, o0, none⟩) 4 c0, .slice Ai a.ints.length ci]) a := ⟨_, _, rfl, okBBB.mono (okBBB.grow hD hB) fun _ hk => .inl hk, okIs.mono (okIs.grow hI hB) fun _ hk => .inl hk⟩
  have HSZ := Lib.hid hsz
  have HS := Lib.hid hsh
  have HIC := Lib.hid hic
  have HI1 := Lib.hid hs
  have HI3 := Lib.hid hi3
  have HIL := Lib.hid hil
  clear hsz hD hI h hsh hic hs hi3 hil
  go_enter Try.func73, Try.ntmps73
  go_wp2_with fail
  try rw [hW]
  clear hW
  go_loopw [7] (fun u wr => ∃ m : Nat, m ≤ 6 ∧ u = .int .i64 ((m : Int) + 1) ∧ (m : Int) ≤ max n 0 ∧ (∃ dv iv, BoxAt wr w.heap.size 41 [dv, iv] ∧ RdA wr (fun k => F k ∧ k < w.heap.size ∨ w.heap.size + 3 ≤ k) (.agg #[dv, iv]) (wrTo a i m)) ∧ BoxAt wr (w.heap.size + 1) 88 [.int .i64 (s : Int), .slice (some ⟨bc, oc, none⟩) 4 cc] ∧ BoxAt wr (w.heap.size + 1 + 1) 41 [.slice none 0 0, .slice none 0 0] ∧ Below w.heap.size w wr ∧ w.heap.size + 3 ≤ wr.heap.size) (fun u _ => 7 - (intOf u).toNat)
  case atStart => exact ⟨0, Nat.zero_le _, rfl, by omega, ⟨_, _, hA, by rw [wrTo_zero]; exact hA1⟩, hX, hR, hB, by rw [HSZ.out]; exact Nat.le_refl _⟩
  case round =>
    obtain ⟨m, hm, rfl, hmn, ⟨dv, iv, hA2, hR2⟩, hX2, hZ2, hB2, hs2⟩ := hrel
    have hskm := wrTo_shape HS.out HIC.out m
    obtain ⟨b1, o1, c1, A1, c2, hag, _, _, hc11, hc12⟩ := RdA_open hR2 hskm
    injection hag with hag
    simp only [Array.mk.injEq, List.cons.injEq, and_true] at hag
    obtain ⟨rfl, rfl⟩ := hag
    obtain ⟨x0, x1, x2, x3⟩ := hA2.two
    obtain ⟨y0, y1, y2, y3⟩ := hX2.two
    by_cases hgo : (m : Int) + 1 ≤ n ∧ m < 6
    rotate_left
    · obtain ⟨z0, z1, z2, z3⟩ := hZ2.two
      have hr3 : RdA (set2 wr (w.heap.size + 1 + 1) (.slice (some ⟨b1, o1, none⟩) 4 c1) (.slice A1 (wrTo a i m).ints.length c2)) _ _ _ := hR2.set2 (b := w.heap.size + 1 + 1) fun k hk => by omega
      have hb3 := hB2.trans (below_set2 (b := w.heap.size + 1 + 1) (v0 := .slice (some ⟨b1, o1, none⟩) 4 c1) (v1 := .slice A1 (wrTo a i m).ints.length c2) (by omega))
      have hall := wrTo_all a i n (m := m) (by omega)
      have hr4 : RdA (set2 wr (w.heap.size + 1 + 1) (.slice (some ⟨b1, o1, none⟩) 4 c1) (.slice A1 (wrTo a i m).ints.length c2)) (fun k => F k ∨ w.heap.size ≤ k) (.agg #[.slice (some ⟨b1, o1, none⟩) 4 c1, .slice A1 (wrTo a i m).ints.length c2]) (writeR a i n) := by
        rw [← hall]
        exact hr3.mono fun k hk => hk.elim (fun h => .inl h.1) fun h => .inr (by omega)
      have H := Lib.hid (And.intro hr4 hb3)
      clear hall hr4 hr3 hb3 hR2 hA2 hX2 hZ2 hB2 hA hA1 hX hR hB hskm
      by_cases h1 : (m : Int) + 1 ≤ n
      · have d1 : decide ((m : Int) + 1 ≤ n) = true := by simpa using h1
        have d2 : decide ((m : Int) + 1 ≤ 6) = false := by simp; omega
        go_wp2_with fail
        exact bodyPost_ret (v := .agg #[.slice (some ⟨b1, o1, none⟩) 4 c1, .slice A1 (wrTo a i m).ints.length c2]) (by simp [results, Try.results73, go_sem, *]) rfl ⟨_, rfl, H.out.1, H.out.2⟩
      · have d1 : decide ((m : Int) + 1 ≤ n) = false := by simpa using h1
        go_wp2_with fail
        exact bodyPost_ret (v := .agg #[.slice (some ⟨b1, o1, none⟩) 4 c1, .slice A1 (wrTo a i m).ints.length c2]) (by simp [results, Try.results73, go_sem, *]) rfl ⟨_, rfl, H.out.1, H.out.2⟩
    obtain ⟨hg1, hg2⟩ := hgo
    have d1 : decide ((m : Int) + 1 ≤ n) = true := by simpa using hg1
    have d2 : decide ((m : Int) + 1 ≤ 6) = true := by simp; omega
    obtain ⟨hdd, hii⟩ := RdA.parts hR2
    have hCr := okBB.grow hC hB2
    by_cases hm0 : m = 0
    · subst hm0
      have hAl := hA2.alloc (.cells #[.int .i64 (s : Int), .slice (some ⟨bc, oc, none⟩) 4 cc] 88)
      have hal := below_alloc wr (.cells #[.int .i64 (s : Int), .slice (some ⟨bc, oc, none⟩) 4 cc] 88)
      obtain ⟨p0, p1, p2, p3⟩ := hAl.two
      have hone := RdIs.one_ (F := fun k => F k ∧ k < w.heap.size ∨ w.heap.size + 3 ≤ k) (s := (s : Int)) (okBB.mono hCr fun _ hk => .inl hk) 88 (.inr hs2)
      have hset := hAl.set_ 1 (.slice (some ⟨wr.heap.size, 0, none⟩) 1 1)
      have hone2 := okIs.setc hone (b := w.heap.size) (j := 1) (v := .slice (some ⟨wr.heap.size, 0, none⟩) 1 1) (fun k hk => by omega)
      have hdd2 := okBBB.setc (okBBB.grow hdd hal) (b := w.heap.size) (j := 1) (v := .slice (some ⟨wr.heap.size, 0, none⟩) 1 1) (fun k hk => by omega)
      have hX3 := (hX2.alloc (.cells #[.int .i64 (s : Int), .slice (some ⟨bc, oc, none⟩) 4 cc] 88)).far (b' := w.heap.size) (j := 1) (v := .slice (some ⟨wr.heap.size, 0, none⟩) 1 1) (by omega)
      have hZ3 := (hZ2.alloc (.cells #[.int .i64 (s : Int), .slice (some ⟨bc, oc, none⟩) 4 cc] 88)).far (b' := w.heap.size) (j := 1) (v := .slice (some ⟨wr.heap.size, 0, none⟩) 1 1) (by omega)
      have hB3 := (hB2.trans (hal.mono hB2.size)).setCell (p := ⟨w.heap.size, 1, none⟩) (Nat.le_refl _) (.slice (some ⟨wr.heap.size, 0, none⟩) 1 1)
      have hs3 : w.heap.size + 3 ≤ ((wr.alloc (.cells #[.int .i64 (s : Int), .slice (some ⟨bc, oc, none⟩) 4 cc] 88)).setCell ⟨w.heap.size, 1, none⟩ (.slice (some ⟨wr.heap.size, 0, none⟩) 1 1)).heap.size := by rw [setCell_size, alloc_size]; omega
      have H := Lib.hid (And.intro hset (And.intro hdd2 (And.intro hone2 (And.intro hX3 (And.intro hZ3 (And.intro hB3 hs3))))))
      clear hAl hset hdd2 hone2 hX3 hZ3 hB3 hs3 hone hdd hii hA2 hX2 hZ2 hB2 hR2 hA hA1 hX hR hB hskm x0 x1 x2 x3
      go_wp2_with fail
      go_roundw
      case rel =>
        refine ⟨1, by omega, by go_num, by omega, ⟨_, _, H.out.1, _, _, rfl, H.out.2.1, ?_⟩, H.out.2.2.2.1, H.out.2.2.2.2.1, H.out.2.2.2.2.2.1, H.out.2.2.2.2.2.2⟩
        have e : [i] = [((s : Int), i.2)] := by rw [← HI3.out]
        show RdIs _ _ _ [i]
        rw [e]
        exact H.out.2.2.1
      case measure => simp [intOf]
    by_cases hm5 : m = 5
    · subst hm5
      have hset := hA2.set_ 1 (.slice none 0 0)
      have hdd2 := okBBB.setc hdd (b := w.heap.size) (j := 1) (v := .slice none 0 0) (fun k hk => by omega)
      have hX3 := hX2.far (b' := w.heap.size) (j := 1) (v := .slice none 0 0) (by omega)
      have hZ3 := hZ2.far (b' := w.heap.size) (j := 1) (v := .slice none 0 0) (by omega)
      have hB3 := hB2.setCell (p := ⟨w.heap.size, 1, none⟩) (Nat.le_refl _) (.slice none 0 0)
      have hs3 : w.heap.size + 3 ≤ (wr.setCell ⟨w.heap.size, 1, none⟩ (.slice none 0 0)).heap.size := by rw [setCell_size]; omega
      have H := Lib.hid (And.intro hset (And.intro hdd2 (And.intro hX3 (And.intro hZ3 (And.intro hB3 hs3)))))
      clear hset hdd2 hX3 hZ3 hB3 hs3 hdd hii hA2 hX2 hZ2 hB2 hR2 hA hA1 hX hR hB hskm
      go_wp2_with fail
      go_roundw
      case rel =>
        refine ⟨6, by omega, by go_num, by omega, ⟨_, _, H.out.1, _, _, rfl, H.out.2.1, RdIs.nil_ _ _ _ _ (by decide)⟩, H.out.2.2.1, H.out.2.2.2.1, H.out.2.2.2.2.1, H.out.2.2.2.2.2⟩
      case measure => simp [intOf]
    obtain ⟨j, rfl⟩ : ∃ j, m = j + 1 := ⟨m - 1, by omega⟩
    have hj4 : j < 4 := by omega
    have ej : ((j + 1 : Nat) : Int) + 1 = (j : Int) + 2 := by omega
    rw [ej] at d1 d2 hg1 ⊢
    have d3 : decide ((j : Int) + 2 < 6) = true := by simp; omega
    have d4 : ((j : Int) + 2 == 1) = false := by simp; omega
    have HN := Lib.hid (wrTo_cell a i (m := j + 1) (by omega) (by omega))
    have hjl : j < i.2.length := by rw [HIL.out]; exact hj4
    obtain ⟨u, hu, hRu⟩ := RdL_q hCr (k := j) (x := i.2[j]) (List.getElem?_eq_getElem hjl)
    obtain ⟨Ax, cx, rfl, _, _⟩ := hRu.shape
    have HX := Lib.hid (show i.2.getD j [] = i.2[j] by simp [List.getD, List.getElem?_eq_getElem hjl])
    have HRu := Lib.hid hRu
    have hbase : w.heap.size ≤ wr.heap.size := by omega
    have H := Lib.hid (And.intro hA2 (And.intro hR2 (And.intro hX2 (And.intro hZ2 (And.intro hB2 hs2)))))
    have HSK := Lib.hid hskm
    clear hm0 hm5 ej hRu hCr hC hdd hii hA2 hX2 hZ2 hB2 hR2 hA hA1 hX hR hB hskm hs2 x0 x1 x2 x3 y0 y1 y2 y3
    generalize wrTo a i (j + 1) = a1 at *
    go_wp2_with fail
    refine region_three (w.heap.size) [Ck (.agg #[.slice (some ⟨b1, o1, none⟩) 4 c1, .slice A1 a1.ints.length c2]), Ck (.int .i64 ((j : Int) + 2)), Ck (.int .i64 j), Ck (.pointer (some ⟨w.heap.size + 1, 0, none⟩)), Ck (.int .i64 s), Ck (.pointer (some ⟨w.heap.size + 1, 1, none⟩)), Ck (.slice (some ⟨bc, oc, none⟩) 4 cc), Ck (.int .i64 ((j : Int) + 2)), Ck (.int .i64 j), Ck (.pointer (some ⟨bc, oc + j, none⟩)), Ck (.slice Ax i.2[j].length cx), Ek 0 (Ra (fun k => F k ∧ k < w.heap.size ∨ w.heap.size + 3 ≤ k) (wrTo a i (j + 1 + 1))), Tk] (fun q wx => (q = 0 → BoxAt wx w.heap.size 41 [.slice (some ⟨b1, o1, none⟩) 4 c1, .slice A1 a1.ints.length c2] ∧ RdA wx (fun k => F k ∧ k < w.heap.size ∨ w.heap.size + 3 ≤ k) (.agg #[.slice (some ⟨b1, o1, none⟩) 4 c1, .slice A1 a1.ints.length c2]) a1) ∧ (q = 1 → ∃ dv iv, BoxAt wx w.heap.size 41 [dv, iv] ∧ RdA wx (fun k => F k ∧ k < w.heap.size ∨ w.heap.size + 3 ≤ k) (.agg #[dv, iv]) (wrTo a i (j + 1 + 1))) ∧ BoxAt wx (w.heap.size + 1) 88 [.int .i64 (s : Int), .slice (some ⟨bc, oc, none⟩) 4 cc] ∧ BoxAt wx (w.heap.size + 1 + 1) 41 [.slice none 0 0, .slice none 0 0] ∧ w.heap.size + 3 ≤ wx.heap.size) [12] (by kernel_rfl) (by kernel_rfl) (by kernel_rfl) (by kernel_rfl) (by kernel_rfl) ?_ ?_ (fun q w w' hb h => ⟨fun e => ⟨(h.1 e).1.grow hb, (h.1 e).2.grow hb⟩, fun e => (h.2.1 e).imp fun dv hv => hv.imp fun iv hv => ⟨hv.1.grow hb, hv.2.grow hb⟩, h.2.2.1.grow hb, h.2.2.2.1.grow hb, Nat.le_trans h.2.2.2.2 hb.size⟩) (⟨fun _ => ⟨H.out.1, H.out.2.1⟩, fun h => absurd h (by decide), H.out.2.2.1, H.out.2.2.2.1, H.out.2.2.2.2.2⟩) ?_ ?_
    · first | exact Nat.le_refl _ | assumption | omega
    · repeat (first | exact trivial | refine ⟨mCk _, ?_⟩ | refine ⟨mTk, ?_⟩ | refine ⟨mEk _ (by first | exact mC _ | exact mT | exact mR okB _ | exact mR okBB _ | exact mR okBBB _ | exact mRn okB _ _ | exact mRn okBB _ _ | exact mOw _ _ _ _ | exact mRm okB _ _ _ | exact mRa _ _), ?_⟩ | refine ⟨mFk _ (by first | exact mC _ | exact mT | exact mR okB _ | exact mR okBB _ | exact mR okBBB _ | exact mRn okB _ _ | exact mRn okBB _ _ | exact mOw _ _ _ _ | exact mRm okB _ _ _ | exact mRa _ _), ?_⟩ | refine ⟨fun _ => (by first | exact mC _ | exact mT | exact mR okB _ | exact mR okBB _ | exact mR okBBB _ | exact mRn okB _ _ | exact mRn okBB _ _ | exact mOw _ _ _ _ | exact mRm okB _ _ _ | exact mRa _ _), ?_⟩)
    · simp only [StepsL3]
      refine ⟨?_, ?_, ?_, ?_, ?_, ?_, ?_, ?_, ?_, ?_, ?_, ?_, ?_, trivial⟩
      · refine @id (StepG _ _ _ _ _ _ _ _ _ _ _) ?_
        intro nst ys wx hn hmay hw hS hd
        obtain rfl : nst = 0 := may_one hmay hn (by kernel_rfl)
        intro K hK
        simp only [putL, Act.put, List.setIfInBounds_toArray, List.set_cons_zero, List.set_cons_succ, Nat.zero_add, Nat.reduceAdd] at hK ⊢
        rw [if_pos (by rfl)]
        obtain ⟨x0, x1, x2, x3⟩ := (hS.1 rfl).1.two
        go_simp
        exact hK _ _ (Below.refl _ _) rfl
      · refine @id (StepG _ _ _ _ _ _ _ _ _ _ _) ?_
        intro nst ys wx hn hmay hw hS hd
        intro K hK
        simp only [putL, Act.put, List.setIfInBounds_toArray, List.set_cons_zero, List.set_cons_succ, Nat.zero_add, Nat.reduceAdd] at hK ⊢
        rw [if_pos (by rfl)]
        go_simp
        exact hK _ _ (Below.refl _ _) rfl
      · refine @id (StepG _ _ _ _ _ _ _ _ _ _ _) ?_
        intro nst ys wx hn hmay hw hS hd
        intro K hK
        have e1 : ys 1 = _ := hd 1 (by decide)
        simp only [putL, Act.put, List.setIfInBounds_toArray, List.set_cons_zero, List.set_cons_succ, Nat.zero_add, Nat.reduceAdd, e1] at hK ⊢
        rw [if_pos (by rfl)]
        have q3 : IntKind.i64.wrap ((j : Nat) : Int) = (j : Int) := wrap_nat (by omega)
        go_simp
        exact hK _ _ (Below.refl _ _) rfl
      · refine @id (StepG _ _ _ _ _ _ _ _ _ _ _) ?_
        intro nst ys wx hn hmay hw hS hd
        intro K hK
        simp only [putL, Act.put, List.setIfInBounds_toArray, List.set_cons_zero, List.set_cons_succ, Nat.zero_add, Nat.reduceAdd] at hK ⊢
        rw [if_pos (by rfl)]
        go_simp
        exact hK _ _ (Below.refl _ _) rfl
      · refine @id (StepG _ _ _ _ _ _ _ _ _ _ _) ?_
        intro nst ys wx hn hmay hw hS hd
        obtain rfl : nst = 0 := may_one hmay hn (by kernel_rfl)
        intro K hK
        have e3 : ys 3 = _ := hd 3 (by decide)
        simp only [putL, Act.put, List.setIfInBounds_toArray, List.set_cons_zero, List.set_cons_succ, Nat.zero_add, Nat.reduceAdd, e3] at hK ⊢
        rw [if_pos (by rfl)]
        obtain ⟨x0, x1, x2, x3⟩ := hS.2.2.1.two
        go_simp
        exact hK _ _ (Below.refl _ _) rfl
      · refine @id (StepG _ _ _ _ _ _ _ _ _ _ _) ?_
        intro nst ys wx hn hmay hw hS hd
        intro K hK
        simp only [putL, Act.put, List.setIfInBounds_toArray, List.set_cons_zero, List.set_cons_succ, Nat.zero_add, Nat.reduceAdd] at hK ⊢
        rw [if_pos (by rfl)]
        go_simp
        exact hK _ _ (Below.refl _ _) rfl
      · refine @id (StepG _ _ _ _ _ _ _ _ _ _ _) ?_
        intro nst ys wx hn hmay hw hS hd
        obtain rfl : nst = 0 := may_one hmay hn (by kernel_rfl)
        intro K hK
        have e5 : ys 5 = _ := hd 5 (by decide)
        simp only [putL, Act.put, List.setIfInBounds_toArray, List.set_cons_zero, List.set_cons_succ, Nat.zero_add, Nat.reduceAdd, e5] at hK ⊢
        rw [if_pos (by rfl)]
        obtain ⟨x0, x1, x2, x3⟩ := hS.2.2.1.two
        go_simp
        exact hK _ _ (Below.refl _ _) rfl
      · refine @id (StepG _ _ _ _ _ _ _ _ _ _ _) ?_
        intro nst ys wx hn hmay hw hS hd
        intro K hK
        simp only [putL, Act.put, List.setIfInBounds_toArray, List.set_cons_zero, List.set_cons_succ, Nat.zero_add, Nat.reduceAdd] at hK ⊢
        rw [if_pos (by rfl)]
        go_simp
        exact hK _ _ (Below.refl _ _) rfl
      · refine @id (StepG _ _ _ _ _ _ _ _ _ _ _) ?_
        intro nst ys wx hn hmay hw hS hd
        intro K hK
        have e7 : ys 7 = _ := hd 7 (by decide)
        simp only [putL, Act.put, List.setIfInBounds_toArray, List.set_cons_zero, List.set_cons_succ, Nat.zero_add, Nat.reduceAdd, e7] at hK ⊢
        rw [if_pos (by rfl)]
        have q3 : IntKind.i64.wrap ((j : Nat) : Int) = (j : Int) := wrap_nat (by omega)
        go_simp
        exact hK _ _ (Below.refl _ _) rfl
      · refine @id (StepG _ _ _ _ _ _ _ _ _ _ _) ?_
        intro nst ys wx hn hmay hw hS hd
        intro K hK
        have e6 : ys 6 = _ := hd 6 (by decide)
        have e8 : ys 8 = _ := hd 8 (by decide)
        simp only [putL, Act.put, List.setIfInBounds_toArray, List.set_cons_zero, List.set_cons_succ, Nat.zero_add, Nat.reduceAdd, e6, e8] at hK ⊢
        rw [if_pos (by rfl)]
        have q1 : (j : Int) < 4 := by omega
        have q0 : (0 : Int) ≤ j := by omega
        have q2 : (j : Int).toNat = j := by omega
        go_simp
        exact hK _ _ (Below.refl _ _) rfl
      · refine @id (StepG _ _ _ _ _ _ _ _ _ _ _) ?_
        intro nst ys wx hn hmay hw hS hd
        intro K hK
        have e9 : ys 9 = _ := hd 9 (by decide)
        simp only [putL, Act.put, List.setIfInBounds_toArray, List.set_cons_zero, List.set_cons_succ, Nat.zero_add, Nat.reduceAdd, e9] at hK ⊢
        rw [if_pos (by rfl)]
        have kx := (hw.cell (p := ⟨bc, oc + j, none⟩) hFbc.2).trans hu
        go_simp
        exact hK _ _ (Below.refl _ _) rfl
      · refine @id (StepG _ _ _ _ _ _ _ _ _ _ _) ?_
        intro nst ys wx hn hmay hw hS hd
        obtain rfl : nst = 0 := may_one hmay hn (by kernel_rfl)
        intro K hK
        have e0 : ys 0 = _ := hd 0 (by decide)
        have e2 : ys 2 = _ := hd 2 (by decide)
        have e4 : ys 4 = _ := hd 4 (by decide)
        have e10 : ys 10 = _ := hd 10 (by decide)
        simp only [putL, Act.put, List.setIfInBounds_toArray, List.set_cons_zero, List.set_cons_succ, Nat.zero_add, Nat.reduceAdd, e0, e2, e4, e10] at hK ⊢
        rw [if_pos (by rfl)]
        go_simp
        refine (ref_with a1 j s i.2[j] _ _ _ _ (hS.1 rfl).2 (okB.mono (okB.below HRu.out hw fun k hk _ => hk.2) fun k hk => .inl hk) HSK.out hj4 his).mono ?_
        rintro e w' ⟨v', rfl, hr', hb'⟩
        have hn := HN.out
        simp only [Nat.add_sub_cancel, HI1.out, HX.out] at hn
        rw [← hn] at hr'
        exact hK _ _ hb' (hr'.mono fun k hk => hk.elim id fun h => .inr (Nat.le_trans hS.2.2.2.2 h))
      · refine @id (StepS _ _ _ _ _ _ _ _ _ _ _) ?_
        intro ys wx hw hS hd K hK
        have k11 := hd 11 (by decide)
        change (Ra (fun k => F k ∧ k < w.heap.size ∨ w.heap.size + 3 ≤ k) (wrTo a i (j + 1 + 1))) wx (ys 11) at k11
        simp only [putL, Act.put, List.setIfInBounds_toArray, List.set_cons_zero, List.set_cons_succ, Nat.zero_add, Nat.reduceAdd] at hK ⊢
        rw [if_pos (by rfl)]
        have hsk2 := wrTo_shape HS.out HIC.out (j + 1 + 1)
        obtain ⟨b5, o5, c5, A5, c6, hy, _, _, _, _⟩ := RdA_open k11 hsk2
        have k11' := k11
        rw [hy] at k11'
        simp only [hy] at hK ⊢
        obtain ⟨x0, x1, x2, x3⟩ := (hS.1 rfl).1.two
        have g1 : BoxAt (set2 wx w.heap.size (.slice (some ⟨b5, o5, none⟩) 4 c5) (.slice A5 (wrTo a i (j + 1 + 1)).ints.length c6)) _ _ _ := (hS.1 rfl).1.put2
        have g2 : RdA (set2 wx w.heap.size (.slice (some ⟨b5, o5, none⟩) 4 c5) (.slice A5 (wrTo a i (j + 1 + 1)).ints.length c6)) _ _ _ := RdA.set2 k11' (b := w.heap.size) fun k hk => by omega
        have g3 : BoxAt (set2 wx w.heap.size (.slice (some ⟨b5, o5, none⟩) 4 c5) (.slice A5 (wrTo a i (j + 1 + 1)).ints.length c6)) _ _ _ := hS.2.2.1.far2 (by omega)
        have g4 : BoxAt (set2 wx w.heap.size (.slice (some ⟨b5, o5, none⟩) 4 c5) (.slice A5 (wrTo a i (j + 1 + 1)).ints.length c6)) _ _ _ := hS.2.2.2.1.far2 (by omega)
        have g5 : w.heap.size + 3 ≤ (set2 wx w.heap.size (.slice (some ⟨b5, o5, none⟩) 4 c5) (.slice A5 (wrTo a i (j + 1 + 1)).ints.length c6)).heap.size := by rw [set2_size]; exact hS.2.2.2.2
        have hbs := below_set2 (w := wx) (b := w.heap.size) (v0 := .slice (some ⟨b5, o5, none⟩) 4 c5) (v1 := .slice A5 (wrTo a i (j + 1 + 1)).ints.length c6) (Nat.le_refl _)
        go_simp
        exact hK undef _ hbs ⟨fun h => absurd h (by decide), fun _ => ⟨_, _, g1, g2⟩, g3, g4, g5⟩ trivial ⟨fun _ h => h, fun _ h => h, fun _ h => h, fun _ h => h, fun _ h => h, fun _ h => h, fun _ h => h, fun _ h => h, fun _ h => h, fun _ h => h, fun _ h => h, fun _ _ => trivial, fun _ h => h, trivial⟩
    · intro ys w' hl' hS' hV
      clear hV
      simp only [putL, Act.put, List.setIfInBounds_toArray, List.set_cons_zero, List.set_cons_succ, Nat.zero_add, Nat.reduceAdd]
      obtain ⟨dv, iv, r1, r2⟩ := hS'.2.1 rfl
      have H3 := Lib.hid (And.intro r1 (And.intro r2 (And.intro hS'.2.2.1 (And.intro hS'.2.2.2.1 (And.intro (H.out.2.2.2.2.1.trans (hl'.mono (Nat.le_refl _))) hS'.2.2.2.2)))))
      clear r1 r2 hS' hl'
      go_wp2
      go_roundw
      case rel => exact ⟨j + 1 + 1, by omega, by go_num, by omega, ⟨_, _, H3.out.1, H3.out.2.1⟩, H3.out.2.2.1, H3.out.2.2.2.1, H3.out.2.2.2.2.1, H3.out.2.2.2.2.2⟩
      case measure => simp [intOf]; omega
end Go.Proofs.Ytlbnkoahkfhimaa

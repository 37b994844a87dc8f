/- Chapter 9: what mend.Stripe computes. -/
import Derived.Test.YtlbnkoahkfhimaaC11
import Derived.Test.YtlbnkoahkfhimaaC9b
namespace Go.Proofs.Ytlbnkoahkfhimaa
set_option linter.unusedVariables false
open Go Go.RowKit M
/-- Rows of cells that are read, each row and each cell apart. -/
abbrev ROWr : Rel (List Bs) := OwnL RdB 23
theorem okROWr : Ok ROWr := okO okB
abbrev DISKSr : Rel (List (List Bs)) := OwnL ROWr 22
theorem okDISKSr : Ok DISKSr := okO okROWr
theorem disks_r {w : World} {F : Fp} {v : Value} {D : List (List Bs)} (h : DISKS w F v D) : DISKSr w F v D := h.imp fun hr => hr.imp fun hc => cell_rd hc
theorem disksr_rd {w : World} {F : Fp} {v : Value} {D : List (List Bs)} (h : DISKSr w F v D) : RdBBB w F v D := h.toRd okROWr (fun hx => hx.toRd okB (fun hc => hc) okB) okBB
/-- A cell is put in its place. -/
theorem disks_put {w : World} {F f' : Fp} {g c : Nat} {D : List (List Bs)} (h : DISKSr w F (.slice (some ⟨g, 0, none⟩) 4 c) D) (hs : Shape D) {d s : Nat} (hd : d < 4) (hs3 : s < 3) {u : Value} {x : Bs} (hu : RdB w f' u x) (hf' : ∀ k, f' k → ¬ F k ∧ k < w.heap.size) :
    ∃ g1 c1 u0, w.cell? ⟨g, d, none⟩ = some (.slice (some ⟨g1, 0, none⟩) 3 c1) ∧ 3 ≤ c1 ∧ c1 ≤ maxLen ∧ w.cell? ⟨g1, s, none⟩ = some u0 ∧ w.frozen? ⟨g1, s, none⟩ = false ∧ F g1 ∧
      DISKSr (w.setCell ⟨g1, s, none⟩ u) (fun k => F k ∨ f' k) (.slice (some ⟨g, 0, none⟩) 4 c) (setA D d s x) := by
  obtain ⟨r, hr, hrl, hrs, _⟩ := hs.cell hd hs3
  have hdl : d < D.length := by rw [hs.1]; exact hd
  have her : D[d] = r := (List.getElem?_eq_some_iff.1 hr).2
  obtain ⟨u1, f1, a1, a2, a3, a4, a5⟩ := h.inner okROWr hdl
  rw [her] at a3
  obtain ⟨g1, c1, rfl, hf1, _, hc1, hc1m⟩ := a3.form (by omega)
  rw [hrl] at a1 a3 a5 hc1
  have hsl : s < r.length := by omega
  obtain ⟨u0, f0, b1, b2, _, _, _⟩ := a3.inner okB hsl
  have hput := a3.put okB hsl hu (fun k hk => ⟨fun h1 => (hf' k hk).1 (a4 k h1).1, (hf' k hk).2⟩)
  refine ⟨g1, c1, u0, a1, hc1, hc1m, b1, b2, (a4 g1 hf1).1, ?_⟩
  have htop := a5 (w.setCell ⟨g1, s, none⟩ u) (fun k => f1 k ∨ f' k) (r.set s x) (fun k _ hk _ => Below.heap_setCell w ⟨g1, s, none⟩ _ k fun e => hk (e ▸ hf1)) hput (fun k hk => by
    rw [setCell_size]
    rcases hk with hk | hk
    · exact ⟨.inl hk, (a4 k hk).2.2⟩
    · exact ⟨.inr (hf' k hk).1, (hf' k hk).2⟩)
  have e5 : setA D d s x = D.set d (r.set s x) := by
    unfold setA
    rw [show D.getD d [] = r by simp [List.getD, hr]]
  rw [e5]
  refine okDISKSr.mono htop fun k hk => ?_
  rcases hk with hk | hk | hk
  · exact .inl hk
  · exact .inl (a4 k hk).1
  · exact .inr hk
set_option maxRecDepth 100000 in
set_option maxHeartbeats 3200000 in
theorem mend_Stripe (a : Arr) (s : Int) (v : Value) (F : Fp) (w : World) (h : RdA w F v a) (hsh : Shape a.disks) (hno : a.ints = []) :
    Calls Try.prog 46 #[v, .int .i64 s] w fun e w' => ∃ v', e = .returned (.tuple #[v', .int .i64 (mendA a s).2.1, .int .i64 (mendA a s).2.2]) ∧ RdA w' (fun k => w.heap.size ≤ k) v' (mendA a s).1 ∧ Below w.heap.size w w' := by
  obtain ⟨b0, o0, c0, Ai, ci, rfl, hD, hI, hc0, hc1⟩ := RdA_open h hsh
  obtain ⟨hA, hZ, hB, hsz⟩ := two_boxes w (.slice (some ⟨b0, o0, none⟩) 4 c0) (.slice Ai a.ints.length ci) 41
  have hAr : RdA _ (fun k => F k ∧ k < w.heap.size) (.agg #[.slice (some ⟨b0, o0, none⟩) 4 c0, .slice Ai a.ints.length ci]) a := ⟨_, _, rfl, okBBB.grow hD hB, okIs.grow hI hB⟩
  have HSZ := Lib.hid hsz
  have HS := Lib.hid hsh
  have HNO := Lib.hid hno
  obtain ⟨x0, x1, x2, x3⟩ := hA.two
  clear h hI hsz hsh hno hD
  go_enter Try.func46, Try.ntmps46
  go_wp2_with fail
  generalize (w.alloc (.cells #[.slice (some ⟨b0, o0, none⟩) 4 c0, .slice Ai a.ints.length ci] 41)).alloc (.cells #[.slice none 0 0, .slice none 0 0] 41) = w1 at *
  refine (array_Own0 a _ _ _ hAr HS.out HNO.out).mono ?_
  rintro e w2 ⟨dv, rfl, hO, hb2⟩
  rw [HSZ.out] at hO
  obtain ⟨g, cg, rfl, hg0, hg1, hcg, hcgm⟩ := hO.form (by rw [HS.out.1]; decide)
  rw [HS.out.1] at hO hcg ⊢
  unfold maxLen at hcgm
  have hal := below_alloc w2 (.cells #[.slice (some ⟨g, 0, none⟩) 4 cg, .slice none 0 0] 41)
  have hX := boxAt_new w2 41 [.slice (some ⟨g, 0, none⟩) 4 cg, .slice none 0 0]
  have hO3 := okDISKSr.grow (okDISKSr.lt (disks_r hO)) hal
  have hb3 := hb2.trans (hal.mono hb2.size)
  have hA3 := hA.grow hb3
  have hZ3 := hZ.grow hb3
  have hB3 := hB.trans (hb3.mono hB.size)
  have hAr3 := hAr.grow hb3
  have hsz2 : w.heap.size + 2 ≤ w2.heap.size := by have := hb2.size; have := HSZ.out; omega
  have hs9 : decide (s < 0) = decide (s < 0) := rfl
  have HA0 := Lib.hid (And.intro hA3 (And.intro hZ3 (And.intro hB3 (And.intro hX (And.intro hO3 hAr3)))))
  clear x0 x1 x2 x3 hal hb3 hA3 hZ3 hB3 hX hO3 hO hb2 hA hZ hB hAr hg0 hg1 hAr3 hs9
  by_cases hs : s < 0 ∨ 3 ≤ s
  · have HP := Lib.hid (mend_out (a := a) hs)
    obtain ⟨hA3, hZ3, hB3, hX, hO3, hAr3⟩ := HA0.out
    change BoxAt (w2.alloc (.cells #[.slice (some ⟨g, 0, none⟩) 4 cg, .slice none 0 0] 41)) _ _ _ at hX
    obtain ⟨z0, z1, z2, z3⟩ := hZ3.two
    obtain ⟨y0, y1, y2, y3⟩ := hX.two
    have hrd : RdA _ (fun k => w.heap.size + 2 ≤ k ∧ k < w2.heap.size) (.agg #[.slice (some ⟨g, 0, none⟩) 4 cg, .slice none 0 0]) a := ⟨_, _, rfl, disksr_rd hO3, by rw [HNO.out]; exact RdIs.nil_ _ _ _ _ (by decide)⟩
    have HRET := Lib.hid (ret_box (F' := fun k => w.heap.size ≤ k) hZ3 hB3 (by omega) hrd (fun k hk => by omega) fun k hk => by omega)
    clear hA3 hZ3 hB3 hX hO3 hAr3 hrd HA0
    rcases hs with hs | hs
    · go_wp2_with fail
      exact bodyPost_ret (v := .tuple #[.agg #[.slice (some ⟨g, 0, none⟩) 4 cg, .slice none 0 0], .int .i64 0, .int .i64 3]) (by simp [results, Try.results46, go_sem, *]) rfl (by rw [HP.out]; exact ⟨_, rfl, HRET.out.1, HRET.out.2⟩)
    · have d1 : decide (3 ≤ s) = true := by simpa using hs
      have d2 : decide (s < 0) = false := by simp; omega
      go_wp2_with fail
      exact bodyPost_ret (v := .tuple #[.agg #[.slice (some ⟨g, 0, none⟩) 4 cg, .slice none 0 0], .int .i64 0, .int .i64 3]) (by simp [results, Try.results46, go_sem, *]) rfl (by rw [HP.out]; exact ⟨_, rfl, HRET.out.1, HRET.out.2⟩)
  obtain ⟨s, rfl⟩ := Int.eq_ofNat_of_zero_le (show 0 ≤ s by omega)
  have hs3 : s < 3 := by omega
  have d1 : decide (3 ≤ (s : Int)) = false := by simp; omega
  have d2 : decide ((s : Int) < 0) = false := by simp
  have ML := Lib.hid (@mend_lost a s hs3)
  have MH := Lib.hid (@mend_had a s hs3)
  obtain ⟨x0, x1, x2, x3⟩ := HA0.out.1.two
  clear hs
  go_wp2_with fail
  clear x0 x1 x2 x3
  change Hid (_ ∧ _ ∧ _ ∧ BoxAt (w2.alloc (.cells #[.slice (some ⟨g, 0, none⟩) 4 cg, .slice none 0 0] 41)) _ _ _ ∧ _ ∧ _) at HA0
  generalize w2.alloc (.cells #[.slice (some ⟨g, 0, none⟩) 4 cg, .slice none 0 0] 41) = w3 at *
  generalize w2.heap.size = BO at *
  refine (stripe_Cells a s _ _ _ HA0.out.2.2.2.2.2 HS.out hs3).mono ?_
  rintro e w4 ⟨v4, rfl, hv4, hb4⟩
  have hr4 := hv4.toRd_ okB
  have HL := Lib.hid (show (cellsA a.disks s).length = 4 by rw [cellsA_len, HS.out.1])
  clear hv4
  go_wp2_with fail
  refine (stripe_Bad _ s _ _ _ hr4 (by rw [HL.out]; decide)).mono ?_
  rintro e w5 ⟨v5, rfl, hv5, hb5⟩
  obtain ⟨A5, c5, rfl, _, _⟩ := (hv5.toRd_ okI).shape
  rw [ints_len]
  have hr5 := okBB.grow hr4 hb5
  clear hv5 hr4
  go_wp2_with fail
  refine (stripe_Data (cellsA a.disks s) s _ _ _ hr5 (by rw [HL.out]; decide)).mono ?_
  rintro e w6 ⟨v6, rfl, hv6, hb6⟩
  have hb36 := hb4.trans ((hb5.trans (hb6.mono hb5.size)).mono hb4.size)
  obtain ⟨hA3, hZ3, hB3, hX, hO3, hAr3⟩ := HA0.out
  have HX := Lib.hid (hX.grow hb36)
  have HZ := Lib.hid (hZ3.grow hb36)
  have HBel := Lib.hid (hB3.trans (hb36.mono hB3.size))
  have HO := Lib.hid (okDISKSr.grow hO3 hb36)
  have hgF := (hO3.blk g rfl).1
  clear hb4 hb5 hb6 hb36 hr5 hA3 hZ3 hB3 hX hO3 hAr3 HA0
  by_cases h9 : (dataL (cellsA a.disks s) s).2 = 0
  rotate_left
  · have HP := Lib.hid (ML.out h9)
    obtain ⟨z0, z1, z2, z3⟩ := HZ.out.two
    obtain ⟨y0, y1, y2, y3⟩ := HX.out.two
    have hrd : RdA w6 (fun k => w.heap.size + 2 ≤ k ∧ k < BO) (.agg #[.slice (some ⟨g, 0, none⟩) 4 cg, .slice none 0 0]) a := ⟨_, _, rfl, disksr_rd HO.out, by rw [HNO.out]; exact RdIs.nil_ _ _ _ _ (by decide)⟩
    have HRET := Lib.hid (ret_box (F' := fun k => w.heap.size ≤ k) HZ.out HBel.out (by omega) hrd (fun k hk => by omega) fun k hk => by omega)
    have hne : ((dataL (cellsA a.disks s) s).2 != 0) = true := by simpa using h9
    clear h9 hv6 ML MH hrd
    generalize (dataL (cellsA a.disks s) s).2 = q at *
    go_wp2_with fail
    exact bodyPost_ret (v := .tuple #[.agg #[.slice (some ⟨g, 0, none⟩) 4 cg, .slice none 0 0], .int .i64 ((badL (cellsA a.disks s) s).length : Nat), .int .i64 q]) (by simp [results, Try.results46, go_sem, *]) rfl (by rw [HP.out]; exact ⟨_, rfl, HRET.out.1, HRET.out.2⟩)
  have HP := Lib.hid (MH.out h9)
  obtain ⟨q1, q2, _⟩ := data_blocks h9
  rw [HL.out] at q1
  rw [h9]
  have hr6 := hv6.toRd_ okB
  clear h9 ML MH hv6
  obtain ⟨D, hDD⟩ : ∃ D, (dataL (cellsA a.disks s) s).1 = D := ⟨_, rfl⟩
  rw [hDD] at q1 q2 hr6 HP
  obtain ⟨A6, c6, rfl, _, _⟩ := hr6.shape
  rw [q1] at hr6 ⊢
  have hml : (makeL D s).length = 4 := by rw [makeL_len, q1]
  have HML := Lib.hid (make_lens q2 s)
  generalize (badL (cellsA a.disks s) s).length = nb at *
  clear hDD
  go_wp2_with fail
  refine (stripe_Make D s _ _ _ hr6 (by omega) (by rw [q1]; decide) q2).mono ?_
  rintro e w7 ⟨v7, rfl, hv7, hb7⟩
  generalize makeL D s = M at *
  obtain ⟨gM, cM, rfl, hgM0, hgM1, hcM, hcMm⟩ := hv7.form (by omega)
  unfold maxLen at hcMm
  obtain ⟨fs, hfl, hap, hels⟩ := hv7.els
  rw [hml] at hv7 hcM hfl ⊢
  have HEL := Lib.hid hels
  have HAP := Lib.hid hap
  have hs6 : BO < w6.heap.size := HX.out.lt
  have H7 := Lib.hid (And.intro (HX.out.grow hb7) (And.intro (HZ.out.grow hb7) (And.intro (HBel.out.trans (hb7.mono HBel.out.size)) (okDISKSr.grow HO.out hb7))))
  clear hv7 hr6 hb7 q2 hels hap HX HZ HBel HO
  go_wp2_with fail
  go_loopw [45] (fun i wr => ∃ k : Nat, k ≤ 4 ∧ i = .int .i64 k ∧ DISKSr wr (fun q => (w.heap.size + 2 ≤ q ∧ q < BO) ∨ ∃ (j : Nat) (f : Fp), j < k ∧ fs[j]? = some f ∧ f q) (.slice (some ⟨g, 0, none⟩) 4 cg) (putTo a.disks s M k) ∧ (∀ (j : Nat) (x : Bs) (f : Fp), M[j]? = some x → fs[j]? = some f → ∃ u, wr.cell? ⟨gM, j, none⟩ = some u ∧ (k ≤ j → RdB wr f u x)) ∧ BoxAt wr BO 41 [.slice (some ⟨g, 0, none⟩) 4 cg, .slice none 0 0] ∧ BoxAt wr (w.heap.size + 1) 41 [.slice none 0 0, .slice none 0 0] ∧ Below w.heap.size w wr ∧ w7.heap.size ≤ wr.heap.size) (fun i _ => 4 - (intOf i).toNat)
  case atStart =>
    refine ⟨0, Nat.zero_le _, rfl, okDISKSr.mono H7.out.2.2.2 fun q hq => .inl hq, fun j x f hx hf => ?_, H7.out.1, H7.out.2.1, H7.out.2.2.1, Nat.le_refl _⟩
    obtain ⟨u, h1, h2⟩ := (HEL.out j x f hx hf).2 gM 4 cM (by rw [hml])
    exact ⟨u, h1, fun _ => h2⟩
  case round =>
    obtain ⟨k, hk, rfl, hO, hM, hX, hZ, hB, hsr⟩ := hrel
    by_cases hlt : k < 4
    · have hkm : k < M.length := by omega
      have hkf : k < fs.length := by omega
      obtain ⟨u, hu, hRu'⟩ := hM k M[k] fs[k] (List.getElem?_eq_getElem hkm) (List.getElem?_eq_getElem hkf)
      have hRu := hRu' (Nat.le_refl _)
      have hfk := (HEL.out k M[k] fs[k] (List.getElem?_eq_getElem hkm) (List.getElem?_eq_getElem hkf)).1
      have hshk : Shape (putTo a.disks s M k) := putTo_shape HS.out s HML.out k
      have hdis : ∀ q, fs[k] q → ¬ ((w.heap.size + 2 ≤ q ∧ q < BO) ∨ ∃ (j : Nat) (f : Fp), j < k ∧ fs[j]? = some f ∧ f q) ∧ q < wr.heap.size := fun q hq => by
        refine ⟨?_, by have := (hfk q hq).2.2; omega⟩
        rintro (h | ⟨j, f, hj, hf, hfq⟩)
        · have := (hfk q hq).1; omega
        · exact HAP.out j k f fs[k] hf (List.getElem?_eq_getElem hkf) (by omega) q hfq hq
      obtain ⟨g1, k1, u0, p1, p2, p3, p4, p5, p6, p7⟩ := disks_put hO hshk hlt hs3 hRu hdis
      have hg1 : w.heap.size + 2 ≤ g1 ∧ g1 ≠ BO ∧ g1 ≠ gM := by
        rcases p6 with h | ⟨j, f, hj, hf, hfq⟩
        · omega
        · have h1 := (HEL.out j (M[j]'(by omega)) f (List.getElem?_eq_getElem _) hf).1 g1 hfq
          refine ⟨by have := h1.1; omega, by have := h1.1; omega, fun e => h1.2.1 (by rw [e]; rfl)⟩
      obtain ⟨Ax, cx, rfl, _, _⟩ := hRu.shape
      unfold maxLen at p3
      have HN := Lib.hid (show putTo a.disks s M (k + 1) = setA (putTo a.disks s M k) k s M[k] by rw [putTo_next]; simp [List.getD, List.getElem?_eq_getElem hkm])
      have n1 : DISKSr (wr.setCell ⟨g1, s, none⟩ (.slice Ax M[k].length cx)) (fun q => (w.heap.size + 2 ≤ q ∧ q < BO) ∨ ∃ (j : Nat) (f : Fp), j < k + 1 ∧ fs[j]? = some f ∧ f q) (.slice (some ⟨g, 0, none⟩) 4 cg) (putTo a.disks s M (k + 1)) := by
        rw [HN.out]
        refine okDISKSr.mono p7 fun q hq => ?_
        rcases hq with (h | ⟨j, f, hj, hf, hfq⟩) | h
        · exact .inl h
        · exact .inr ⟨j, f, by omega, hf, hfq⟩
        · exact .inr ⟨k, fs[k], by omega, List.getElem?_eq_getElem hkf, h⟩
      have n2 : ∀ (j : Nat) (x : Bs) (f : Fp), M[j]? = some x → fs[j]? = some f → ∃ u, (wr.setCell ⟨g1, s, none⟩ (.slice Ax M[k].length cx)).cell? ⟨gM, j, none⟩ = some u ∧ (k + 1 ≤ j → RdB (wr.setCell ⟨g1, s, none⟩ (.slice Ax M[k].length cx)) f u x) := fun j x f hx hf => by
        obtain ⟨u', h1, h2⟩ := hM j x f hx hf
        refine ⟨u', ?_, fun hj => okB.setc (h2 (by omega)) fun q hq e => ?_⟩
        · rw [World.cell?_of_block (w := wr) (a := ⟨gM, j, none⟩) (Below.heap_setCell wr ⟨g1, s, none⟩ _ gM (fun e => hg1.2.2 e.symm))]
          exact h1
        · subst e
          have hfj := (HEL.out j x f hx hf).1 q hq
          rcases p6 with h | ⟨i, f', hi, hf', hfq⟩
          · have := hfj.1; omega
          · exact HAP.out i j f' f hf' hf (by omega) q hfq hq
      have n3 := hX.far (b' := g1) (j := s) (v := .slice Ax M[k].length cx) (by omega)
      have n4 := hZ.far (b' := g1) (j := s) (v := .slice Ax M[k].length cx) (by omega)
      have n5 := hB.setCell (p := ⟨g1, s, none⟩) (by show w.heap.size ≤ g1; omega) (.slice Ax M[k].length cx)
      have n6 : w7.heap.size ≤ (wr.setCell ⟨g1, s, none⟩ (.slice Ax M[k].length cx)).heap.size := by rw [setCell_size]; exact hsr
      have H := Lib.hid (And.intro n1 (And.intro n2 (And.intro n3 (And.intro n4 (And.intro n5 n6)))))
      obtain ⟨y0, y1, y2, y3⟩ := hX.two
      clear n1 n2 n3 n4 n5 n6 hRu hRu' hfk hdis p7 hO hM hX hZ hB hshk p6
      go_wp2_with fail
      go_roundw
      case rel => exact ⟨k + 1, by omega, by go_num, H.out.1, H.out.2.1, H.out.2.2.1, H.out.2.2.2.1, H.out.2.2.2.2.1, H.out.2.2.2.2.2⟩
      case measure => simp [intOf]; omega
    · obtain rfl : k = 4 := by omega
      obtain ⟨z0, z1, z2, z3⟩ := hZ.two
      obtain ⟨y0, y1, y2, y3⟩ := hX.two
      have hrd : RdA wr _ (.agg #[.slice (some ⟨g, 0, none⟩) 4 cg, .slice none 0 0]) ⟨putTo a.disks s M 4, a.ints⟩ := ⟨_, _, rfl, disksr_rd hO, by show RdIs _ _ _ a.ints; rw [HNO.out]; exact RdIs.nil_ _ _ _ _ (by decide)⟩
      have hge : ∀ q, ((w.heap.size + 2 ≤ q ∧ q < BO) ∨ ∃ (j : Nat) (f : Fp), j < 4 ∧ fs[j]? = some f ∧ f q) → w.heap.size + 2 ≤ q := fun q hq => by
        rcases hq with h | ⟨j, f, hj, hf, hfq⟩
        · exact h.1
        · have h1 := (HEL.out j (M[j]'(by omega)) f (List.getElem?_eq_getElem _) hf).1 q hfq
          have := h1.1
          omega
      have HRET := Lib.hid (ret_box (F' := fun k => w.heap.size ≤ k) hZ hB (by omega) hrd (fun k hk => by have := hge k hk; omega) fun k hk => by have := hge k hk; omega)
      clear hO hM hX hZ hB hrd hge hk hlt
      go_wp2_with fail
      exact bodyPost_ret (v := .tuple #[.agg #[.slice (some ⟨g, 0, none⟩) 4 cg, .slice none 0 0], .int .i64 (nb : Nat), .int .i64 0]) (by simp [results, Try.results46, go_sem, *]) rfl (by rw [HP.out]; exact ⟨_, rfl, HRET.out.1, HRET.out.2⟩)
end Go.Proofs.Ytlbnkoahkfhimaa

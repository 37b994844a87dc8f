/- Chapter 8: what the reference's Same computes, where no array has an intent. -/
import Derived.Test.YtlbnkoahkfhimaaC9e
namespace Go.Proofs.Ytlbnkoahkfhimaa
set_option linter.unusedVariables false
open Go Go.RowKit M
theorem rows_eq {A B : List (List Bs)} (hA : A.length = 4) (hB : B.length = 4) (h : ∀ j, j < 4 → A.getD j [] = B.getD j []) : A = B := by
  apply List.ext_getElem (by omega)
  intro i h1 h2
  have := h i (by omega)
  simpa [List.getD, List.getElem?_eq_getElem h1, List.getElem?_eq_getElem h2] using this
set_option maxRecDepth 100000 in
set_option maxHeartbeats 1600000 in
theorem ref_Same (a b : Arr) (v vb : Value) (F F2 : Fp) (w : World) (h : RdA w F v a) (h2 : RdA w F2 vb b) (hsh : Shape a.disks) (hsh2 : Shape b.disks) (hno : a.ints = []) (hno2 : b.ints = []) :
    Calls Try.prog 39 #[v, vb] w fun e w' => e = .returned (.bool (a.disks == b.disks)) ∧ Below w.heap.size w w' := by
  obtain ⟨b0, o0, c0, Ai, ci, rfl, hD, hI, hc0, hc1⟩ := RdA_open h hsh
  obtain ⟨b1, o1, c1, Aj, cj, rfl, hD2, hI2, hd0, hd1⟩ := RdA_open h2 hsh2
  rw [show a.ints.length = 0 by rw [hno]; rfl, show b.ints.length = 0 by rw [hno2]; rfl] at *
  obtain ⟨w1, hW, hA, hX, hB, hsz⟩ := boxes2 w [.slice (some ⟨b0, o0, none⟩) 4 c0, .slice Ai 0 ci] [.slice (some ⟨b1, o1, none⟩) 4 c1, .slice Aj 0 cj] 41 41
  change ((w.alloc (.cells #[.slice (some ⟨b0, o0, none⟩) 4 c0, .slice Ai 0 ci] 41)).alloc (.cells #[.slice (some ⟨b1, o1, none⟩) 4 c1, .slice Aj 0 cj] 41)) = w1 at hW
  obtain ⟨x0, x1, x2, x3⟩ := hA.two
  obtain ⟨y0, y1, y2, y3⟩ := hX.two
  replace hD := okBBB.grow hD hB
  replace hD2 := okBBB.grow hD2 hB
  have HS := Lib.hid (And.intro hsh hsh2)
  clear hI hI2 h h2 hsz hno hno2 hsh hsh2
  go_enter Try.func39, Try.ntmps39
  go_wp2_with fail
  clear hW x0 x1 x2 x3 y0 y1 y2 y3
  go_loopw [26] (fun i wr => ∃ k : Nat, k ≤ 4 ∧ i = .int .i64 k ∧ (∀ j, j < k → a.disks.getD j [] = b.disks.getD j []) ∧ Below w1.heap.size w1 wr) (fun i _ => 4 - (intOf i).toNat)
  case atStart => exact ⟨0, Nat.zero_le _, rfl, fun j hj => by omega, Below.refl _ _⟩
  case round =>
    obtain ⟨k, hk, rfl, hpre, hlw⟩ := hrel
    have HP := Lib.hid hpre
    clear hpre
    obtain ⟨x0, x1, x2, x3⟩ := (hA.grow hlw).two
    obtain ⟨y0, y1, y2, y3⟩ := (hX.grow hlw).two
    by_cases hlt : k < 4
    · obtain ⟨p1, p2, p3, hp1, hp2, hp3, hp4⟩ := disks_row (okBBB.grow hD hlw) HS.out.1 hlt
      obtain ⟨q1, q2, q3, hq1, hq2, hq3, hq4⟩ := disks_row (okBBB.grow hD2 hlw) HS.out.2 hlt
      unfold maxLen at hp4 hq4
      have HR := Lib.hid (And.intro hp2 hq2)
      have HA := Lib.hid (And.intro (hA.grow hlw) (hX.grow hlw))
      have HLW := Lib.hid hlw
      obtain ⟨ra, hra⟩ : ∃ r, a.disks.getD k [] = r := ⟨_, rfl⟩
      obtain ⟨rb, hrb⟩ : ∃ r, b.disks.getD k [] = r := ⟨_, rfl⟩
      rw [hra, hrb] at HR
      have HRA := Lib.hid (And.intro hra hrb)
      clear hp2 hq2 hlw hra hrb
      have hbk : decide ((k : Int) < 4) = true := by simp; omega
      go_wp2_with fail
      clear x0 x1 x2 x3 y0 y1 y2 y3
      refine region_list [Cv (.pointer (some ⟨w.heap.size, 0, none⟩)), Cv (.slice (some ⟨b0, o0, none⟩) 4 c0), Cv (.int .i64 k), Cv (.pointer (some ⟨b0, o0 + k, none⟩)), Cv (.slice (some ⟨p1, p2, none⟩) 3 p3), Cv (.pointer (some ⟨w.heap.size + 1, 0, none⟩)), Cv (.slice (some ⟨b1, o1, none⟩) 4 c1), Cv (.int .i64 k), Cv (.pointer (some ⟨b1, o1 + k, none⟩)), Cv (.slice (some ⟨q1, q2, none⟩) 3 q3), Cv (.bool (ra == rb)), Cv (.bool (!(ra == rb)))] (by kernel_rfl) (by kernel_rfl) (by kernel_rfl) ?_ ?_ ?_
      · repeat (first | exact trivial | refine ⟨mC _, ?_⟩ | refine ⟨mR okB _, ?_⟩ | refine ⟨mT, ?_⟩ | refine ⟨mR okBB _, ?_⟩ | refine ⟨mR okBBB _, ?_⟩ | refine ⟨mKt _, ?_⟩ | refine ⟨mRa _ _, ?_⟩)
      · simp only [StepsL]
        refine ⟨?_, ?_, ?_, ?_, ?_, ?_, ?_, ?_, ?_, ?_, ?_, ?_, trivial⟩
        · intro ys wx hw hd K hK
          simp only [putL, Act.put, List.setIfInBounds_toArray, List.set_cons_zero, List.set_cons_succ, Nat.zero_add, Nat.reduceAdd] at hK ⊢
          rw [if_pos (by rfl)]
          go_simp
          exact hK _ _ (Below.refl _ _) rfl
        · intro ys wx hw hd K hK
          have e0 : ys 0 = _ := hd 0 (by decide)
          simp only [putL, Act.put, List.setIfInBounds_toArray, List.set_cons_zero, List.set_cons_succ, Nat.zero_add, Nat.reduceAdd, e0] at hK ⊢
          rw [if_pos (by rfl)]
          obtain ⟨kb0, kb1, _⟩ := (HA.out.1.grow hw).two
          go_simp
          exact hK _ _ (Below.refl _ _) rfl
        · intro ys wx hw hd K hK
          simp only [putL, Act.put, List.setIfInBounds_toArray, List.set_cons_zero, List.set_cons_succ, Nat.zero_add, Nat.reduceAdd] at hK ⊢
          rw [if_pos (by rfl)]
          go_simp
          exact hK _ _ (Below.refl _ _) rfl
        · intro ys wx hw hd K hK
          have e1 : ys 1 = _ := hd 1 (by decide)
          have e2 : ys 2 = _ := hd 2 (by decide)
          simp only [putL, Act.put, List.setIfInBounds_toArray, List.set_cons_zero, List.set_cons_succ, Nat.zero_add, Nat.reduceAdd, e1, e2] at hK ⊢
          rw [if_pos (by rfl)]
          have r1 : (k : Int) < 4 := by omega
          have r0 : (0 : Int) ≤ k := by omega
          have r2 : (k : Int).toNat = k := by omega
          go_simp
          exact hK _ _ (Below.refl _ _) rfl
        · intro ys wx hw hd K hK
          have e3 : ys 3 = _ := hd 3 (by decide)
          simp only [putL, Act.put, List.setIfInBounds_toArray, List.set_cons_zero, List.set_cons_succ, Nat.zero_add, Nat.reduceAdd, e3] at hK ⊢
          rw [if_pos (by rfl)]
          have kx := (hw.cell (World.block_lt_of_cell? _ _ hp1)).trans hp1
          go_simp
          exact hK _ _ (Below.refl _ _) rfl
        · intro ys wx hw hd K hK
          simp only [putL, Act.put, List.setIfInBounds_toArray, List.set_cons_zero, List.set_cons_succ, Nat.zero_add, Nat.reduceAdd] at hK ⊢
          rw [if_pos (by rfl)]
          go_simp
          exact hK _ _ (Below.refl _ _) rfl
        · intro ys wx hw hd K hK
          have e5 : ys 5 = _ := hd 5 (by decide)
          simp only [putL, Act.put, List.setIfInBounds_toArray, List.set_cons_zero, List.set_cons_succ, Nat.zero_add, Nat.reduceAdd, e5] at hK ⊢
          rw [if_pos (by rfl)]
          obtain ⟨kb0, kb1, _⟩ := (HA.out.2.grow hw).two
          go_simp
          exact hK _ _ (Below.refl _ _) rfl
        · intro ys wx hw hd K hK
          simp only [putL, Act.put, List.setIfInBounds_toArray, List.set_cons_zero, List.set_cons_succ, Nat.zero_add, Nat.reduceAdd] at hK ⊢
          rw [if_pos (by rfl)]
          go_simp
          exact hK _ _ (Below.refl _ _) rfl
        · intro ys wx hw hd K hK
          have e6 : ys 6 = _ := hd 6 (by decide)
          have e7 : ys 7 = _ := hd 7 (by decide)
          simp only [putL, Act.put, List.setIfInBounds_toArray, List.set_cons_zero, List.set_cons_succ, Nat.zero_add, Nat.reduceAdd, e6, e7] at hK ⊢
          rw [if_pos (by rfl)]
          have r1 : (k : Int) < 4 := by omega
          have r0 : (0 : Int) ≤ k := by omega
          have r2 : (k : Int).toNat = k := by omega
          go_simp
          exact hK _ _ (Below.refl _ _) rfl
        · intro ys wx hw hd K hK
          have e8 : ys 8 = _ := hd 8 (by decide)
          simp only [putL, Act.put, List.setIfInBounds_toArray, List.set_cons_zero, List.set_cons_succ, Nat.zero_add, Nat.reduceAdd, e8] at hK ⊢
          rw [if_pos (by rfl)]
          have kx := (hw.cell (World.block_lt_of_cell? _ _ hq1)).trans hq1
          go_simp
          exact hK _ _ (Below.refl _ _) rfl
        · intro ys wx hw hd K hK
          have e4 : ys 4 = _ := hd 4 (by decide)
          have e9 : ys 9 = _ := hd 9 (by decide)
          simp only [putL, Act.put, List.setIfInBounds_toArray, List.set_cons_zero, List.set_cons_succ, Nat.zero_add, Nat.reduceAdd, e4, e9] at hK ⊢
          rw [if_pos (by rfl)]
          go_simp
          refine (ref_SameBytes ra rb _ _ (fun k => F k ∧ k < w.heap.size ∨ F2 k ∧ k < w.heap.size) _ (okBB.mono (okBB.grow HR.out.1 hw) fun _ hk => .inl hk) (okBB.mono (okBB.grow HR.out.2 hw) fun _ hk => .inr hk)).mono ?_
          rintro e w' ⟨rfl, hb'⟩
          exact hK _ _ hb' rfl
        · intro ys wx hw hd K hK
          have e10 : ys 10 = _ := hd 10 (by decide)
          simp only [putL, Act.put, List.setIfInBounds_toArray, List.set_cons_zero, List.set_cons_succ, Nat.zero_add, Nat.reduceAdd, e10] at hK ⊢
          rw [if_pos (by rfl)]
          go_simp
          exact hK _ _ (Below.refl _ _) rfl
      · intro ys w' hl' hV
        have e11 : ys 11 = _ := hV 11 (by decide)
        clear hV
        simp only [putL, Act.put, List.setIfInBounds_toArray, List.set_cons_zero, List.set_cons_succ, Nat.zero_add, Nat.reduceAdd, e11]
        clear e11
        rename_i w'
        have hbe := HLW.out.trans (hl'.mono HLW.out.size)
        have hbw := hB.trans (hbe.mono hB.size)
        clear hl'
        by_cases hrr : ra = rb
        · subst hrr
          rw [beq_self_eq_true]
          go_wp2
          go_roundw
          case rel => exact ⟨k + 1, by omega, by go_num, fun j hj => by rcases Nat.lt_succ_iff_lt_or_eq.1 hj with h | rfl; exact HP.out j h; rw [HRA.out.1, HRA.out.2], hbe⟩
          case measure => simp [intOf]; omega
        · have he : (ra == rb) = false := by simpa using hrr
          have hne : (a.disks == b.disks) = false := by
            simp only [beq_eq_false_iff_ne, ne_eq]
            intro e
            apply hrr
            rw [← HRA.out.1, ← HRA.out.2, e]
          have HNE := Lib.hid hne
          rw [he]
          clear he hrr hne
          go_wp2
          go_ret
          exact ⟨by rw [HNE.out]; rfl, hbw⟩
    · obtain rfl : k = 4 := by omega
      have he : (a.disks == b.disks) = true := by
        simp only [beq_iff_eq]
        exact rows_eq HS.out.1.1 HS.out.2.1 HP.out
      have HE := Lib.hid he
      have hbw := hB.trans (hlw.mono hB.size)
      clear he hlw hk hlt hD hD2
      go_wp2_with fail
      go_loopw [45] (fun i wx => i = .int .i64 0 ∧ Below w.heap.size w wx) (fun _ _ => 0)
      case atStart => exact ⟨rfl, hbw⟩
      case round =>
        obtain ⟨rfl, hbz⟩ := hrel
        go_wp2
        go_ret
        exact ⟨by rw [HE.out]; rfl, hbz⟩
end Go.Proofs.Ytlbnkoahkfhimaa

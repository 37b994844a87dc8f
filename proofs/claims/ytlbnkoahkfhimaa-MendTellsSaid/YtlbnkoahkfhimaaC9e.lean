/- Chapter 11: what the reference's Again computes. -/
import Derived.Test.YtlbnkoahkfhimaaC9d
namespace Go.Proofs.Ytlbnkoahkfhimaa
set_option linter.unusedVariables false
open Go Go.RowKit M
theorem boxes2 (w : World) (a b : List Value) (T T' : TypeId) : ∃ w1, ((w.alloc (.cells a.toArray T)).alloc (.cells b.toArray T')) = w1 ∧ BoxAt w1 w.heap.size T a ∧ BoxAt w1 (w.heap.size + 1) T' b ∧ Below w.heap.size w w1 ∧ w1.heap.size = w.heap.size + 2 := by
  have h0 := boxAt_new w T a
  have h1 := below_alloc w (.cells a.toArray T)
  have h2 := boxAt_new (w.alloc (.cells a.toArray T)) T' b
  have h3 := below_alloc (w.alloc (.cells a.toArray T)) (.cells b.toArray T')
  rw [alloc_size] at h2
  exact ⟨_, rfl, h0.grow h3, h2, h1.trans (h3.mono h1.size), by rw [alloc_size, alloc_size]⟩
theorem M.BoxAt.seven_ {w : World} {b : Nat} {T : TypeId} {a0 a1 a2 a3 a4 a5 a6 : Value} (h : BoxAt w b T [a0, a1, a2, a3, a4, a5, a6]) : w.cell? ⟨b, 0, none⟩ = some a0 ∧ w.cell? ⟨b, 1, none⟩ = some a1 ∧ w.cell? ⟨b, 2, none⟩ = some a2 ∧ w.cell? ⟨b, 3, none⟩ = some a3 ∧ w.cell? ⟨b, 4, none⟩ = some a4 ∧ w.cell? ⟨b, 5, none⟩ = some a5 ∧ w.cell? ⟨b, 6, none⟩ = some a6 ∧ True :=
  ⟨h.cell 0, h.cell 1, h.cell 2, h.cell 3, h.cell 4, h.cell 5, h.cell 6, trivial⟩
def Kt (r : Int) : Know := fun _ v => ∃ u, v = .tuple #[u, .int .i64 r]
theorem mKt (r : Int) : Mono (Kt r) := fun _ _ _ _ h => h
theorem quos (k d t : Nat) (hk : k < 12) (hd : k / 3 = d) (ht : k % 3 = t) : wrap64 ((k : Int).tdiv 3) = (d : Int) ∧ ((k : Int) / 3) = (d : Int) ∧ ((k : Int).tmod 3) = (t : Int) ∧ IntKind.i64.wrap (d : Int) = (d : Int) ∧ IntKind.i64.wrap (t : Int) = (t : Int) := by
  have h1 : ((k : Int) / 3) = (d : Int) := by omega
  have h2 : ((k : Int) % 3) = (t : Int) := by omega
  refine ⟨?_, h1, ?_, wrap_nat (by omega), wrap_nat (by omega)⟩
  · rw [quo3 (by omega) (by omega), h1]
  · rw [Int.tmod_eq_emod_of_nonneg (by omega), h2]
theorem again_no {a : Arr} {s : Step} (h : s.kind ≠ 3 ∨ s.n < 0 ∨ 11 < s.n) : againA a s = false := by
  unfold againA
  rcases h with h | h | h
  · simp [h]
  · have : ¬ 0 ≤ s.n := by omega
    simp [this]
  · have : ¬ s.n ≤ 11 := by omega
    simp [this]
theorem again_yes {a : Arr} {s : Step} {k : Nat} (h1 : s.kind = 3) (h2 : s.n = k) (h3 : k < 12) : againA a s = !((readC (cellAt a.disks (k / 3) (k % 3)) (k / 3 : Nat) (k % 3 : Nat)).2 == 0) := by
  unfold againA
  rw [h2]
  have e1 : (k : Int) ≤ 11 := by omega
  have e2 : (0 : Int) ≤ (k : Int) := by omega
  simp only [h1, e1, e2, decide_true, beq_self_eq_true, Bool.true_and, Int.toNat_natCast]
  rfl
set_option maxRecDepth 100000 in
set_option maxHeartbeats 1600000 in
theorem ref_Again (a : Arr) (s : Step) (v vs : Value) (F : Fp) {F2 : Fp} (w : World) (h : RdA w F v a) (hs : RdSt w F2 vs s) (hsh : Shape a.disks) :
    Calls Try.prog 67 #[v, vs] w fun e w' => e = .returned (.bool (againA a s)) ∧ Below w.heap.size w w' := by
  obtain ⟨b0, o0, c0, Ai, ci, rfl, hD, hI, hc0, hc1⟩ := RdA_open h hsh
  obtain ⟨dv, rfl, hsn, hdv⟩ := hs
  obtain ⟨Ad, cd, rfl, _, _⟩ := hdv.shape
  obtain ⟨w1, hW, hA, hX, hB, hsz⟩ := boxes2 w [.slice (some ⟨b0, o0, none⟩) 4 c0, .slice Ai a.ints.length ci] [.int .i64 s.kind, .int .i64 s.n, .int .i64 s.m, .int .i64 s.deed.kind, .int .i64 s.deed.n, .int .i64 s.deed.m, .slice Ad s.deed.data.length cd] 41 79
  change ((w.alloc (.cells #[.slice (some ⟨b0, o0, none⟩) 4 c0, .slice Ai a.ints.length ci] 41)).alloc (.cells #[.int .i64 s.kind, .int .i64 s.n, .int .i64 s.m, .int .i64 s.deed.kind, .int .i64 s.deed.n, .int .i64 s.deed.m, .slice Ad s.deed.data.length cd] 79)) = w1 at hW
  obtain ⟨y0, y1, y2, y3, y4, y5, y6⟩ := hX.seven
  by_cases h3 : s.kind = 3
  rotate_left
  · have HP := Lib.hid (again_no (a := a) (.inl h3))
    have e3 : (s.kind != 3) = true := by simpa using h3
    clear h3 hX hA hD hI h hdv
    go_enter Try.func67, Try.ntmps67
    go_wp2
    go_ret
    exact ⟨by rw [HP.out]; rfl, hB⟩
  have e3 : (s.kind != 3) = false := by simpa using h3
  by_cases hn0 : s.n < 0
  · have HP := Lib.hid (again_no (a := a) (.inr (.inl hn0)))
    clear h3 hX hA hD hI h hdv
    go_enter Try.func67, Try.ntmps67
    go_wp2
    go_ret
    exact ⟨by rw [HP.out]; rfl, hB⟩
  by_cases hn11 : 11 < s.n
  · have HP := Lib.hid (again_no (a := a) (.inr (.inr hn11)))
    have d0 : decide (s.n < 0) = false := by simpa using hn0
    have d1 : decide (11 < s.n) = true := by simpa using hn11
    clear h3 hX hA hD hI h hdv
    go_enter Try.func67, Try.ntmps67
    go_wp2
    go_ret
    exact ⟨by rw [HP.out]; rfl, hB⟩
  obtain ⟨k, hk⟩ : ∃ k : Nat, s.n = k := ⟨s.n.toNat, by omega⟩
  have hk12 : k < 12 := by omega
  have HP := Lib.hid (again_yes (a := a) h3 hk hk12)
  obtain ⟨d, hd⟩ : ∃ d, k / 3 = d := ⟨_, rfl⟩
  obtain ⟨t, ht⟩ : ∃ t, k % 3 = t := ⟨_, rfl⟩
  rw [hd, ht] at HP
  have hd4 : d < 4 := by omega
  have ht3 : t < 3 := by omega
  obtain ⟨b1, o1, c1, A2, c2, hu1, hd1, hd2, hu2, hR⟩ := disks_cell (okBBB.grow hD hB) hsh hd4 ht3
  unfold maxLen at hd2
  have d0 : decide (s.n < 0) = false := by simpa using hn0
  have d1 : decide (11 < s.n) = false := by simpa using hn11
  rw [h3] at y0
  rw [hk] at y1
  rw [h3, hk] at hX hW ⊢
  rw [hk] at d0 d1
  have HQ := Lib.hid (quos k d t hk12 hd ht)
  clear h hdv hI hD h3 hk hn0 hn11 hsn hd ht hsh e3
  have HH := Lib.hid (And.intro hA (And.intro hX hB))
  clear hA hX hB
  go_enter Try.func67, Try.ntmps67
  go_wp2_with fail

  clear hW
  refine region_list [Cv (.pointer (some ⟨w.heap.size, 0, none⟩)), Cv (.slice (some ⟨b0, o0, none⟩) 4 c0), Cv (.pointer (some ⟨w.heap.size + 1, 1, none⟩)), Cv (.int .i64 k), Cv (.int .i64 d), Cv (.pointer (some ⟨b0, o0 + d, none⟩)), Cv (.slice (some ⟨b1, o1, none⟩) 3 c1), Cv (.pointer (some ⟨w.heap.size + 1, 1, none⟩)), Cv (.int .i64 k), Cv (.int .i64 t), Cv (.pointer (some ⟨b1, o1 + t, none⟩)), Cv (.slice A2 (cellAt a.disks d t).length c2), Cv (.pointer (some ⟨w.heap.size + 1, 1, none⟩)), Cv (.int .i64 k), Cv (.int .i64 d), Cv (.pointer (some ⟨w.heap.size + 1, 1, none⟩)), Cv (.int .i64 k), Cv (.int .i64 t), Kt (readC (cellAt a.disks d t) d t).2, Kt (readC (cellAt a.disks d t) d t).2, Tv, Cv (.int .i64 (readC (cellAt a.disks d t) d t).2), Tv, Cv (.int .i64 (readC (cellAt a.disks d t) d t).2)] (by kernel_rfl) (by kernel_rfl) (by kernel_rfl) ?_ ?_ ?_
  · repeat (first | exact trivial | refine ⟨mC _, ?_⟩ | refine ⟨mR okB _, ?_⟩ | refine ⟨mT, ?_⟩ | refine ⟨mR okBB _, ?_⟩ | refine ⟨mR okBBB _, ?_⟩ | refine ⟨mKt _, ?_⟩ | refine ⟨mRa _ _, ?_⟩)
  · simp only [StepsL]
    refine ⟨?_, ?_, ?_, ?_, ?_, ?_, ?_, ?_, ?_, ?_, ?_, ?_, ?_, ?_, ?_, ?_, ?_, ?_, ?_, ?_, ?_, ?_, ?_, ?_, trivial⟩
    · intro ys wx hw hd K hK
      simp only [putL, Act.put, List.setIfInBounds_toArray, List.set_cons_zero, List.set_cons_succ, Nat.zero_add, Nat.reduceAdd] at hK ⊢
      rw [if_pos (by rfl)]
      go_simp
      exact hK _ _ (Below.refl _ _) rfl
    · intro ys wx hw hd K hK
      have e0 : ys 0 = _ := hd 0 (by decide)
      simp only [putL, Act.put, List.setIfInBounds_toArray, List.set_cons_zero, List.set_cons_succ, Nat.zero_add, Nat.reduceAdd, e0] at hK ⊢
      rw [if_pos (by rfl)]
      obtain ⟨kb0, kb1, _⟩ := (HH.out.1.grow hw).two
      go_simp
      exact hK _ _ (Below.refl _ _) rfl
    · intro ys wx hw hd K hK
      simp only [putL, Act.put, List.setIfInBounds_toArray, List.set_cons_zero, List.set_cons_succ, Nat.zero_add, Nat.reduceAdd] at hK ⊢
      rw [if_pos (by rfl)]
      go_simp
      exact hK _ _ (Below.refl _ _) rfl
    · intro ys wx hw hd K hK
      have e2 : ys 2 = _ := hd 2 (by decide)
      simp only [putL, Act.put, List.setIfInBounds_toArray, List.set_cons_zero, List.set_cons_succ, Nat.zero_add, Nat.reduceAdd, e2] at hK ⊢
      rw [if_pos (by rfl)]
      obtain ⟨kb0, kb1, kb2, kb3, kb4, kb5, kb6, _⟩ := (HH.out.2.1.grow hw).seven_
      go_simp
      exact hK _ _ (Below.refl _ _) rfl
    · intro ys wx hw hd K hK
      have e3 : ys 3 = _ := hd 3 (by decide)
      simp only [putL, Act.put, List.setIfInBounds_toArray, List.set_cons_zero, List.set_cons_succ, Nat.zero_add, Nat.reduceAdd, e3] at hK ⊢
      rw [if_pos (by rfl)]
      obtain ⟨q4, q5, q9, qa, qb⟩ := HQ.out
      go_simp
      exact hK _ _ (Below.refl _ _) rfl
    · intro ys wx hw hd K hK
      have e1 : ys 1 = _ := hd 1 (by decide)
      have e4 : ys 4 = _ := hd 4 (by decide)
      simp only [putL, Act.put, List.setIfInBounds_toArray, List.set_cons_zero, List.set_cons_succ, Nat.zero_add, Nat.reduceAdd, e1, e4] at hK ⊢
      rw [if_pos (by rfl)]
      have r1 : (d : Int) < 4 := by omega
      have r0 : (0 : Int) ≤ d := by omega
      have r2 : (d : Int).toNat = d := by omega
      go_simp
      exact hK _ _ (Below.refl _ _) rfl
    · intro ys wx hw hd K hK
      have e5 : ys 5 = _ := hd 5 (by decide)
      simp only [putL, Act.put, List.setIfInBounds_toArray, List.set_cons_zero, List.set_cons_succ, Nat.zero_add, Nat.reduceAdd, e5] at hK ⊢
      rw [if_pos (by rfl)]
      have kx := (hw.cell (World.block_lt_of_cell? _ _ hu1)).trans hu1
      go_simp
      exact hK _ _ (Below.refl _ _) rfl
    · intro ys wx hw hd K hK
      simp only [putL, Act.put, List.setIfInBounds_toArray, List.set_cons_zero, List.set_cons_succ, Nat.zero_add, Nat.reduceAdd] at hK ⊢
      rw [if_pos (by rfl)]
      go_simp
      exact hK _ _ (Below.refl _ _) rfl
    · intro ys wx hw hd K hK
      have e7 : ys 7 = _ := hd 7 (by decide)
      simp only [putL, Act.put, List.setIfInBounds_toArray, List.set_cons_zero, List.set_cons_succ, Nat.zero_add, Nat.reduceAdd, e7] at hK ⊢
      rw [if_pos (by rfl)]
      obtain ⟨kb0, kb1, kb2, kb3, kb4, kb5, kb6, _⟩ := (HH.out.2.1.grow hw).seven_
      go_simp
      exact hK _ _ (Below.refl _ _) rfl
    · intro ys wx hw hd K hK
      have e8 : ys 8 = _ := hd 8 (by decide)
      simp only [putL, Act.put, List.setIfInBounds_toArray, List.set_cons_zero, List.set_cons_succ, Nat.zero_add, Nat.reduceAdd, e8] at hK ⊢
      rw [if_pos (by rfl)]
      obtain ⟨q4, q5, q9, qa, qb⟩ := HQ.out
      go_simp
      exact hK _ _ (Below.refl _ _) rfl
    · intro ys wx hw hd K hK
      have e6 : ys 6 = _ := hd 6 (by decide)
      have e9 : ys 9 = _ := hd 9 (by decide)
      simp only [putL, Act.put, List.setIfInBounds_toArray, List.set_cons_zero, List.set_cons_succ, Nat.zero_add, Nat.reduceAdd, e6, e9] at hK ⊢
      rw [if_pos (by rfl)]
      have r1 : (t : Int) < 3 := by omega
      have r0 : (0 : Int) ≤ t := by omega
      have r2 : (t : Int).toNat = t := by omega
      go_simp
      exact hK _ _ (Below.refl _ _) rfl
    · intro ys wx hw hd K hK
      have e10 : ys 10 = _ := hd 10 (by decide)
      simp only [putL, Act.put, List.setIfInBounds_toArray, List.set_cons_zero, List.set_cons_succ, Nat.zero_add, Nat.reduceAdd, e10] at hK ⊢
      rw [if_pos (by rfl)]
      have kx := (hw.cell (World.block_lt_of_cell? _ _ hu2)).trans hu2
      go_simp
      exact hK _ _ (Below.refl _ _) rfl
    · intro ys wx hw hd K hK
      simp only [putL, Act.put, List.setIfInBounds_toArray, List.set_cons_zero, List.set_cons_succ, Nat.zero_add, Nat.reduceAdd] at hK ⊢
      rw [if_pos (by rfl)]
      go_simp
      exact hK _ _ (Below.refl _ _) rfl
    · intro ys wx hw hd K hK
      have e12 : ys 12 = _ := hd 12 (by decide)
      simp only [putL, Act.put, List.setIfInBounds_toArray, List.set_cons_zero, List.set_cons_succ, Nat.zero_add, Nat.reduceAdd, e12] at hK ⊢
      rw [if_pos (by rfl)]
      obtain ⟨kb0, kb1, kb2, kb3, kb4, kb5, kb6, _⟩ := (HH.out.2.1.grow hw).seven_
      go_simp
      exact hK _ _ (Below.refl _ _) rfl
    · intro ys wx hw hd K hK
      have e13 : ys 13 = _ := hd 13 (by decide)
      simp only [putL, Act.put, List.setIfInBounds_toArray, List.set_cons_zero, List.set_cons_succ, Nat.zero_add, Nat.reduceAdd, e13] at hK ⊢
      rw [if_pos (by rfl)]
      obtain ⟨q4, q5, q9, qa, qb⟩ := HQ.out
      go_simp
      exact hK _ _ (Below.refl _ _) rfl
    · intro ys wx hw hd K hK
      simp only [putL, Act.put, List.setIfInBounds_toArray, List.set_cons_zero, List.set_cons_succ, Nat.zero_add, Nat.reduceAdd] at hK ⊢
      rw [if_pos (by rfl)]
      go_simp
      exact hK _ _ (Below.refl _ _) rfl
    · intro ys wx hw hd K hK
      have e15 : ys 15 = _ := hd 15 (by decide)
      simp only [putL, Act.put, List.setIfInBounds_toArray, List.set_cons_zero, List.set_cons_succ, Nat.zero_add, Nat.reduceAdd, e15] at hK ⊢
      rw [if_pos (by rfl)]
      obtain ⟨kb0, kb1, kb2, kb3, kb4, kb5, kb6, _⟩ := (HH.out.2.1.grow hw).seven_
      go_simp
      exact hK _ _ (Below.refl _ _) rfl
    · intro ys wx hw hd K hK
      have e16 : ys 16 = _ := hd 16 (by decide)
      simp only [putL, Act.put, List.setIfInBounds_toArray, List.set_cons_zero, List.set_cons_succ, Nat.zero_add, Nat.reduceAdd, e16] at hK ⊢
      rw [if_pos (by rfl)]
      obtain ⟨q4, q5, q9, qa, qb⟩ := HQ.out
      go_simp
      exact hK _ _ (Below.refl _ _) rfl
    · intro ys wx hw hd K hK
      have e11 : ys 11 = _ := hd 11 (by decide)
      have e14 : ys 14 = _ := hd 14 (by decide)
      have e17 : ys 17 = _ := hd 17 (by decide)
      simp only [putL, Act.put, List.setIfInBounds_toArray, List.set_cons_zero, List.set_cons_succ, Nat.zero_add, Nat.reduceAdd, e11, e14, e17] at hK ⊢
      rw [if_pos (by rfl)]
      go_simp
      refine (ref_CellRead _ d t _ _ _ (okB.grow hR hw)).mono ?_
      rintro e w' ⟨v', rfl, hr', hb'⟩
      exact hK _ _ hb' ⟨_, rfl⟩
    · intro ys wx hw hd K hK
      have k18 := hd 18 (by decide)
      change (Kt (readC (cellAt a.disks d t) d t).2) wx (ys 18) at k18
      simp only [putL, Act.put, List.setIfInBounds_toArray, List.set_cons_zero, List.set_cons_succ, Nat.zero_add, Nat.reduceAdd] at hK ⊢
      rw [if_pos (by rfl)]
      go_simp
      exact hK _ _ (Below.refl _ _) k18
    · intro ys wx hw hd K hK
      have k19 := hd 19 (by decide)
      change (Kt (readC (cellAt a.disks d t) d t).2) wx (ys 19) at k19
      simp only [putL, Act.put, List.setIfInBounds_toArray, List.set_cons_zero, List.set_cons_succ, Nat.zero_add, Nat.reduceAdd] at hK ⊢
      rw [if_pos (by rfl)]
      obtain ⟨u, hu⟩ := k19
      simp only [hu] at hK ⊢
      go_simp
      exact hK _ _ (Below.refl _ _) trivial
    · intro ys wx hw hd K hK
      have k19 := hd 19 (by decide)
      change (Kt (readC (cellAt a.disks d t) d t).2) wx (ys 19) at k19
      simp only [putL, Act.put, List.setIfInBounds_toArray, List.set_cons_zero, List.set_cons_succ, Nat.zero_add, Nat.reduceAdd] at hK ⊢
      rw [if_pos (by rfl)]
      obtain ⟨u, hu⟩ := k19
      simp only [hu] at hK ⊢
      go_simp
      exact hK _ _ (Below.refl _ _) rfl
    · intro ys wx hw hd K hK
      simp only [putL, Act.put, List.setIfInBounds_toArray, List.set_cons_zero, List.set_cons_succ, Nat.zero_add, Nat.reduceAdd] at hK ⊢
      rw [if_pos (by rfl)]
      go_simp
      exact hK _ _ (Below.refl _ _) trivial
    · intro ys wx hw hd K hK
      have e21 : ys 21 = _ := hd 21 (by decide)
      simp only [putL, Act.put, List.setIfInBounds_toArray, List.set_cons_zero, List.set_cons_succ, Nat.zero_add, Nat.reduceAdd, e21] at hK ⊢
      rw [if_pos (by rfl)]
      go_simp
      exact hK _ _ (Below.refl _ _) rfl
  · intro ys w' hl' hV
    have e23 : ys 23 = _ := hV 23 (by decide)
    clear hV
    simp only [putL, Act.put, List.setIfInBounds_toArray, List.set_cons_zero, List.set_cons_succ, Nat.zero_add, Nat.reduceAdd, e23]
    clear e23
    generalize (readC (cellAt a.disks d t) d t).2 = r at *
    have hbe := HH.out.2.2.trans (hl'.mono HH.out.2.2.size)
    clear hl'
    go_wp2
    go_ret
    exact ⟨by rw [HP.out]; rfl, hbe⟩
end Go.Proofs.Ytlbnkoahkfhimaa

/- Chapter 12: what may.again and may.Lists compute: the walks. -/
import Derived.Test.YtoendmbgfbhidaaC23
import Derived.Test.YtoendmbgfbhidaaZg
import Derived.Test.YtoendmbgfbhidaaZc
namespace Go.Proofs.Ytoendmbgfbhidaa
set_option linter.unusedVariables false
open Go Go.RowKit M
theorem there_no {n : Int} (h0 : 0 ≤ n) (h : 11 < n) : thereB (n / 3) (n % 3) = false := by
  unfold thereB
  have : ¬ n / 3 < 4 := by omega
  simp [this]
theorem there_yes {k d t : Nat} (h : k < 12) (hd : k / 3 = d) (ht : k % 3 = t) : thereB (d : Int) (t : Int) = true := by
  unfold thereB
  have h1 : (d : Int) < 4 := by omega
  have h2 : (t : Int) < 3 := by omega
  simp [h1, h2]
theorem quo_n {n : Int} (h0 : 0 ≤ n) (h1 : n ≤ 9223372036854775807) : wrap64 (n.tdiv 3) = n / 3 ∧ n.tmod 3 = n % 3 ∧ IntKind.i64.wrap (n / 3) = n / 3 ∧ IntKind.i64.wrap (n % 3) = n % 3 ∧ n.tdiv 3 = n / 3 ∧ wrap64 (n % 3) = n % 3 := by
  refine ⟨quo3 h0 h1, Int.tmod_eq_emod_of_nonneg h0, IntWalk.i64_in _ (by omega), IntWalk.i64_in _ (by omega), Int.tdiv_eq_ediv_of_nonneg h0, ?_⟩
  unfold wrap64
  omega
set_option maxRecDepth 100000 in
set_option maxHeartbeats 1600000 in
theorem may_again (a : Arr) (s : Step) (v vs : Value) (F : Fp) {F2 : Fp} (w : World) (h : RdA w F v a) (hs : RdSt w F2 vs s) (hsh : Shape a.disks) :
    Calls Try.prog 77 #[v, vs] w fun e w' => e = .returned (.bool (againA a s)) ∧ Below w.heap.size w w' := by
  obtain ⟨b0, o0, c0, Ai, ci, rfl, hD, hI, hc0, hc1⟩ := RdA_open h hsh
  obtain ⟨dv, rfl, hsn, hdv⟩ := hs
  obtain ⟨Ad, cd, rfl, _, _⟩ := hdv.shape
  obtain ⟨w1, hW, hA, hX, hB, hsz⟩ := boxes2 w [.slice (some ⟨b0, o0, none⟩) 4 c0, .slice Ai a.ints.length ci] [.int .i64 s.kind, .int .i64 s.n, .int .i64 s.m, .int .i64 s.deed.kind, .int .i64 s.deed.n, .int .i64 s.deed.m, .slice Ad s.deed.data.length cd] 30 68
  change ((w.alloc (.cells #[.slice (some ⟨b0, o0, none⟩) 4 c0, .slice Ai a.ints.length ci] 30)).alloc (.cells #[.int .i64 s.kind, .int .i64 s.n, .int .i64 s.m, .int .i64 s.deed.kind, .int .i64 s.deed.n, .int .i64 s.deed.m, .slice Ad s.deed.data.length cd] 68)) = w1 at hW
  have HH := Lib.hid (And.intro hA (And.intro hX hB))
  by_cases h3 : s.kind = 3
  rotate_left
  · have HP := Lib.hid (again_no (a := a) (.inl h3))
    have e3 : (s.kind != 3) = true := by simpa using h3
    clear h3 hX hA hD hI h hdv hB
    go_enter Try.func77, Try.ntmps77
    go_wp2_with fail
    clear hW
    refine region_list [Cv (.pointer (some ⟨w.heap.size + 1, 1, none⟩)), Cv (.int .i64 s.n), Tv, Cv (.pointer (some ⟨w.heap.size + 1, 1, none⟩)), Cv (.int .i64 s.n), Tv, Tv, Tv] (by kernel_rfl) (by kernel_rfl) (by kernel_rfl) ?_ ?_ ?_
    · repeat (first | exact trivial | refine ⟨mC _, ?_⟩ | refine ⟨mR okB _, ?_⟩ | refine ⟨mT, ?_⟩ | refine ⟨mR okBB _, ?_⟩ | refine ⟨mR okBBB _, ?_⟩ | refine ⟨mR (okL okI) _, ?_⟩ | refine ⟨mKt _, ?_⟩ | refine ⟨mRa _ _, ?_⟩)
    · simp only [StepsL]
      refine ⟨?_, ?_, ?_, ?_, ?_, ?_, ?_, ?_, trivial⟩
      · intro ys wx hw hd K hK
        simp only [putL, Act.put, List.setIfInBounds_toArray, List.set_cons_zero, List.set_cons_succ, Nat.zero_add, Nat.reduceAdd] at hK ⊢
        rw [if_pos (by rfl)]
        go_simp
        exact hK _ _ (Below.refl _ _) rfl
      · intro ys wx hw hd K hK
        have e0 : ys 0 = _ := hd 0 (by decide)
        simp only [putL, Act.put, List.setIfInBounds_toArray, List.set_cons_zero, List.set_cons_succ, Nat.zero_add, Nat.reduceAdd, e0] at hK ⊢
        rw [if_pos (by rfl)]
        obtain ⟨kb0, kb1, kb2, kb3, kb4, kb5, kb6, _⟩ := (HH.out.2.1.grow hw).seven_
        go_simp
        exact hK _ _ (Below.refl _ _) rfl
      · intro ys wx hw hd K hK
        have e1 : ys 1 = _ := hd 1 (by decide)
        simp only [putL, Act.put, List.setIfInBounds_toArray, List.set_cons_zero, List.set_cons_succ, Nat.zero_add, Nat.reduceAdd, e1] at hK ⊢
        rw [if_pos (by rfl)]
        go_simp
        exact hK _ _ (Below.refl _ _) trivial
      · intro ys wx hw hd K hK
        simp only [putL, Act.put, List.setIfInBounds_toArray, List.set_cons_zero, List.set_cons_succ, Nat.zero_add, Nat.reduceAdd] at hK ⊢
        rw [if_pos (by rfl)]
        go_simp
        exact hK _ _ (Below.refl _ _) rfl
      · intro ys wx hw hd K hK
        have e3 : ys 3 = _ := hd 3 (by decide)
        simp only [putL, Act.put, List.setIfInBounds_toArray, List.set_cons_zero, List.set_cons_succ, Nat.zero_add, Nat.reduceAdd, e3] at hK ⊢
        rw [if_pos (by rfl)]
        obtain ⟨kb0, kb1, kb2, kb3, kb4, kb5, kb6, _⟩ := (HH.out.2.1.grow hw).seven_
        go_simp
        exact hK _ _ (Below.refl _ _) rfl
      · intro ys wx hw hd K hK
        have e4 : ys 4 = _ := hd 4 (by decide)
        simp only [putL, Act.put, List.setIfInBounds_toArray, List.set_cons_zero, List.set_cons_succ, Nat.zero_add, Nat.reduceAdd, e4] at hK ⊢
        rw [if_pos (by rfl)]
        go_simp
        exact hK _ _ (Below.refl _ _) trivial
      · intro ys wx hw hd K hK
        simp only [putL, Act.put, List.setIfInBounds_toArray, List.set_cons_zero, List.set_cons_succ, Nat.zero_add, Nat.reduceAdd] at hK ⊢
        rw [if_pos (by rfl)]
        go_simp
        exact hK _ _ (Below.refl _ _) trivial
      · intro ys wx hw hd K hK
        simp only [putL, Act.put, List.setIfInBounds_toArray, List.set_cons_zero, List.set_cons_succ, Nat.zero_add, Nat.reduceAdd] at hK ⊢
        rw [if_pos (by rfl)]
        go_simp
        exact hK _ _ (Below.refl _ _) trivial
    · intro ys w' hl' hV
      clear hV
      simp only [putL, Act.put, List.setIfInBounds_toArray, List.set_cons_zero, List.set_cons_succ, Nat.zero_add, Nat.reduceAdd]
      obtain ⟨y0, y1, y2, y3, y4, y5, y6⟩ := (HH.out.2.1.grow hl').seven
      have hbe := HH.out.2.2.trans (hl'.mono HH.out.2.2.size)
      clear hl'
      go_wp2
      go_ret
      exact ⟨by rw [HP.out]; rfl, hbe⟩
  have e3 : (s.kind != 3) = false := by simpa using h3
  by_cases hn0 : s.n < 0
  · have HP := Lib.hid (again_no (a := a) (.inr (.inl hn0)))
    have d0 : decide (s.n < 0) = true := by simpa using hn0
    clear h3 hX hA hD hI h hdv hB hn0
    go_enter Try.func77, Try.ntmps77
    go_wp2_with fail
    clear hW
    refine region_list [Cv (.pointer (some ⟨w.heap.size + 1, 1, none⟩)), Cv (.int .i64 s.n), Tv, Cv (.pointer (some ⟨w.heap.size + 1, 1, none⟩)), Cv (.int .i64 s.n), Tv, Tv, Tv] (by kernel_rfl) (by kernel_rfl) (by kernel_rfl) ?_ ?_ ?_
    · repeat (first | exact trivial | refine ⟨mC _, ?_⟩ | refine ⟨mR okB _, ?_⟩ | refine ⟨mT, ?_⟩ | refine ⟨mR okBB _, ?_⟩ | refine ⟨mR okBBB _, ?_⟩ | refine ⟨mR (okL okI) _, ?_⟩ | refine ⟨mKt _, ?_⟩ | refine ⟨mRa _ _, ?_⟩)
    · simp only [StepsL]
      refine ⟨?_, ?_, ?_, ?_, ?_, ?_, ?_, ?_, trivial⟩
      · intro ys wx hw hd K hK
        simp only [putL, Act.put, List.setIfInBounds_toArray, List.set_cons_zero, List.set_cons_succ, Nat.zero_add, Nat.reduceAdd] at hK ⊢
        rw [if_pos (by rfl)]
        go_simp
        exact hK _ _ (Below.refl _ _) rfl
      · intro ys wx hw hd K hK
        have e0 : ys 0 = _ := hd 0 (by decide)
        simp only [putL, Act.put, List.setIfInBounds_toArray, List.set_cons_zero, List.set_cons_succ, Nat.zero_add, Nat.reduceAdd, e0] at hK ⊢
        rw [if_pos (by rfl)]
        obtain ⟨kb0, kb1, kb2, kb3, kb4, kb5, kb6, _⟩ := (HH.out.2.1.grow hw).seven_
        go_simp
        exact hK _ _ (Below.refl _ _) rfl
      · intro ys wx hw hd K hK
        have e1 : ys 1 = _ := hd 1 (by decide)
        simp only [putL, Act.put, List.setIfInBounds_toArray, List.set_cons_zero, List.set_cons_succ, Nat.zero_add, Nat.reduceAdd, e1] at hK ⊢
        rw [if_pos (by rfl)]
        go_simp
        exact hK _ _ (Below.refl _ _) trivial
      · intro ys wx hw hd K hK
        simp only [putL, Act.put, List.setIfInBounds_toArray, List.set_cons_zero, List.set_cons_succ, Nat.zero_add, Nat.reduceAdd] at hK ⊢
        rw [if_pos (by rfl)]
        go_simp
        exact hK _ _ (Below.refl _ _) rfl
      · intro ys wx hw hd K hK
        have e3 : ys 3 = _ := hd 3 (by decide)
        simp only [putL, Act.put, List.setIfInBounds_toArray, List.set_cons_zero, List.set_cons_succ, Nat.zero_add, Nat.reduceAdd, e3] at hK ⊢
        rw [if_pos (by rfl)]
        obtain ⟨kb0, kb1, kb2, kb3, kb4, kb5, kb6, _⟩ := (HH.out.2.1.grow hw).seven_
        go_simp
        exact hK _ _ (Below.refl _ _) rfl
      · intro ys wx hw hd K hK
        have e4 : ys 4 = _ := hd 4 (by decide)
        simp only [putL, Act.put, List.setIfInBounds_toArray, List.set_cons_zero, List.set_cons_succ, Nat.zero_add, Nat.reduceAdd, e4] at hK ⊢
        rw [if_pos (by rfl)]
        go_simp
        exact hK _ _ (Below.refl _ _) trivial
      · intro ys wx hw hd K hK
        simp only [putL, Act.put, List.setIfInBounds_toArray, List.set_cons_zero, List.set_cons_succ, Nat.zero_add, Nat.reduceAdd] at hK ⊢
        rw [if_pos (by rfl)]
        go_simp
        exact hK _ _ (Below.refl _ _) trivial
      · intro ys wx hw hd K hK
        simp only [putL, Act.put, List.setIfInBounds_toArray, List.set_cons_zero, List.set_cons_succ, Nat.zero_add, Nat.reduceAdd] at hK ⊢
        rw [if_pos (by rfl)]
        go_simp
        exact hK _ _ (Below.refl _ _) trivial
    · intro ys w' hl' hV
      clear hV
      simp only [putL, Act.put, List.setIfInBounds_toArray, List.set_cons_zero, List.set_cons_succ, Nat.zero_add, Nat.reduceAdd]
      obtain ⟨y0, y1, y2, y3, y4, y5, y6⟩ := (HH.out.2.1.grow hl').seven
      have hbe := HH.out.2.2.trans (hl'.mono HH.out.2.2.size)
      clear hl'
      go_wp2
      go_ret
      exact ⟨by rw [HP.out]; rfl, hbe⟩
  have d0 : decide (s.n < 0) = false := by simpa using hn0
  have HQ := Lib.hid (quo_n (Int.not_lt.1 hn0) hsn)
  by_cases hn11 : 11 < s.n
  · have HP := Lib.hid (again_no (a := a) (.inr (.inr hn11)))
    have HT := Lib.hid (there_no (Int.not_lt.1 hn0) hn11)
    clear h3 hX hA hD hI h hdv hB hn0 hn11
    go_enter Try.func77, Try.ntmps77
    go_wp2_with fail
    clear hW
    refine region_list [Cv (.pointer (some ⟨w.heap.size + 1, 1, none⟩)), Cv (.int .i64 s.n), Cv (.int .i64 (s.n / 3)), Cv (.pointer (some ⟨w.heap.size + 1, 1, none⟩)), Cv (.int .i64 s.n), Cv (.int .i64 (s.n % 3)), Cv (.int .i64 (s.n / 3)), Cv (.int .i64 (s.n % 3))] (by kernel_rfl) (by kernel_rfl) (by kernel_rfl) ?_ ?_ ?_
    · repeat (first | exact trivial | refine ⟨mC _, ?_⟩ | refine ⟨mR okB _, ?_⟩ | refine ⟨mT, ?_⟩ | refine ⟨mR okBB _, ?_⟩ | refine ⟨mR okBBB _, ?_⟩ | refine ⟨mR (okL okI) _, ?_⟩ | refine ⟨mKt _, ?_⟩ | refine ⟨mRa _ _, ?_⟩)
    · simp only [StepsL]
      refine ⟨?_, ?_, ?_, ?_, ?_, ?_, ?_, ?_, trivial⟩
      · intro ys wx hw hd K hK
        simp only [putL, Act.put, List.setIfInBounds_toArray, List.set_cons_zero, List.set_cons_succ, Nat.zero_add, Nat.reduceAdd] at hK ⊢
        rw [if_pos (by rfl)]
        go_simp
        exact hK _ _ (Below.refl _ _) rfl
      · intro ys wx hw hd K hK
        have e0 : ys 0 = _ := hd 0 (by decide)
        simp only [putL, Act.put, List.setIfInBounds_toArray, List.set_cons_zero, List.set_cons_succ, Nat.zero_add, Nat.reduceAdd, e0] at hK ⊢
        rw [if_pos (by rfl)]
        obtain ⟨kb0, kb1, kb2, kb3, kb4, kb5, kb6, _⟩ := (HH.out.2.1.grow hw).seven_
        go_simp
        exact hK _ _ (Below.refl _ _) rfl
      · intro ys wx hw hd K hK
        have e1 : ys 1 = _ := hd 1 (by decide)
        simp only [putL, Act.put, List.setIfInBounds_toArray, List.set_cons_zero, List.set_cons_succ, Nat.zero_add, Nat.reduceAdd, e1] at hK ⊢
        rw [if_pos (by rfl)]
        obtain ⟨u1, u2, u3, u4, u5, u6⟩ := HQ.out
        go_simp
        exact hK _ _ (Below.refl _ _) rfl
      · intro ys wx hw hd K hK
        simp only [putL, Act.put, List.setIfInBounds_toArray, List.set_cons_zero, List.set_cons_succ, Nat.zero_add, Nat.reduceAdd] at hK ⊢
        rw [if_pos (by rfl)]
        go_simp
        exact hK _ _ (Below.refl _ _) rfl
      · intro ys wx hw hd K hK
        have e3 : ys 3 = _ := hd 3 (by decide)
        simp only [putL, Act.put, List.setIfInBounds_toArray, List.set_cons_zero, List.set_cons_succ, Nat.zero_add, Nat.reduceAdd, e3] at hK ⊢
        rw [if_pos (by rfl)]
        obtain ⟨kb0, kb1, kb2, kb3, kb4, kb5, kb6, _⟩ := (HH.out.2.1.grow hw).seven_
        go_simp
        exact hK _ _ (Below.refl _ _) rfl
      · intro ys wx hw hd K hK
        have e4 : ys 4 = _ := hd 4 (by decide)
        simp only [putL, Act.put, List.setIfInBounds_toArray, List.set_cons_zero, List.set_cons_succ, Nat.zero_add, Nat.reduceAdd, e4] at hK ⊢
        rw [if_pos (by rfl)]
        obtain ⟨u1, u2, u3, u4, u5, u6⟩ := HQ.out
        go_simp
        exact hK _ _ (Below.refl _ _) rfl
      · intro ys wx hw hd K hK
        have e2 : ys 2 = _ := hd 2 (by decide)
        simp only [putL, Act.put, List.setIfInBounds_toArray, List.set_cons_zero, List.set_cons_succ, Nat.zero_add, Nat.reduceAdd, e2] at hK ⊢
        rw [if_pos (by rfl)]
        go_simp
        exact hK _ _ (Below.refl _ _) rfl
      · intro ys wx hw hd K hK
        have e5 : ys 5 = _ := hd 5 (by decide)
        simp only [putL, Act.put, List.setIfInBounds_toArray, List.set_cons_zero, List.set_cons_succ, Nat.zero_add, Nat.reduceAdd, e5] at hK ⊢
        rw [if_pos (by rfl)]
        go_simp
        exact hK _ _ (Below.refl _ _) rfl
    · intro ys w' hl' hV
      have e6 : ys 6 = _ := hV 6 (by decide)
      have e7 : ys 7 = _ := hV 7 (by decide)
      clear hV
      simp only [putL, Act.put, List.setIfInBounds_toArray, List.set_cons_zero, List.set_cons_succ, Nat.zero_add, Nat.reduceAdd, e6, e7]
      clear e6 e7
      obtain ⟨y0, y1, y2, y3, y4, y5, y6⟩ := (HH.out.2.1.grow hl').seven
      have hbe := HH.out.2.2.trans (hl'.mono HH.out.2.2.size)
      clear hl'
      go_wp2_with fail
      refine (cell_There (s.n / 3) (s.n % 3) _).mono ?_
      rintro e w2 ⟨rfl, hw2⟩
      subst hw2
      rw [HT.out]
      go_wp2
      go_ret
      exact ⟨by rw [HP.out]; rfl, hbe⟩
  obtain ⟨k, hk⟩ : ∃ k : Nat, s.n = k := ⟨s.n.toNat, by omega⟩
  have hk12 : k < 12 := by omega
  have HP := Lib.hid (again_yes (a := a) h3 hk hk12)
  obtain ⟨d, hd⟩ : ∃ d, k / 3 = d := ⟨_, rfl⟩
  obtain ⟨t, ht⟩ : ∃ t, k % 3 = t := ⟨_, rfl⟩
  rw [hd, ht] at HP
  have HT := Lib.hid (there_yes hk12 hd ht)
  have hd4 : d < 4 := by omega
  have ht3 : t < 3 := by omega
  have q1 : s.n / 3 = (d : Int) := by omega
  have q2 : s.n % 3 = (t : Int) := by omega
  rw [q1, q2] at HQ
  obtain ⟨b1, o1, c1, A2, c2, hu1, hd1, hd2, hu2, hR⟩ := disks_cell (okBBB.grow hD hB) hsh hd4 ht3
  unfold maxLen at hd2
  have HR := Lib.hid hR
  clear h3 hX hA hD hI h hdv hB hn0 hn11 hk hk12 hd ht q1 q2 hR
  go_enter Try.func77, Try.ntmps77
  go_wp2_with fail
  clear hW
  refine region_list [Cv (.pointer (some ⟨w.heap.size + 1, 1, none⟩)), Cv (.int .i64 s.n), Cv (.int .i64 d), Cv (.pointer (some ⟨w.heap.size + 1, 1, none⟩)), Cv (.int .i64 s.n), Cv (.int .i64 t), Cv (.int .i64 d), Cv (.int .i64 t)] (by kernel_rfl) (by kernel_rfl) (by kernel_rfl) ?_ ?_ ?_
  · repeat (first | exact trivial | refine ⟨mC _, ?_⟩ | refine ⟨mR okB _, ?_⟩ | refine ⟨mT, ?_⟩ | refine ⟨mR okBB _, ?_⟩ | refine ⟨mR okBBB _, ?_⟩ | refine ⟨mR (okL okI) _, ?_⟩ | refine ⟨mKt _, ?_⟩ | refine ⟨mRa _ _, ?_⟩)
  · simp only [StepsL]
    refine ⟨?_, ?_, ?_, ?_, ?_, ?_, ?_, ?_, trivial⟩
    · intro ys wx hw hd K hK
      simp only [putL, Act.put, List.setIfInBounds_toArray, List.set_cons_zero, List.set_cons_succ, Nat.zero_add, Nat.reduceAdd] at hK ⊢
      rw [if_pos (by rfl)]
      go_simp
      exact hK _ _ (Below.refl _ _) rfl
    · intro ys wx hw hd K hK
      have e0 : ys 0 = _ := hd 0 (by decide)
      simp only [putL, Act.put, List.setIfInBounds_toArray, List.set_cons_zero, List.set_cons_succ, Nat.zero_add, Nat.reduceAdd, e0] at hK ⊢
      rw [if_pos (by rfl)]
      obtain ⟨kb0, kb1, kb2, kb3, kb4, kb5, kb6, _⟩ := (HH.out.2.1.grow hw).seven_
      go_simp
      exact hK _ _ (Below.refl _ _) rfl
    · intro ys wx hw hd K hK
      have e1 : ys 1 = _ := hd 1 (by decide)
      simp only [putL, Act.put, List.setIfInBounds_toArray, List.set_cons_zero, List.set_cons_succ, Nat.zero_add, Nat.reduceAdd, e1] at hK ⊢
      rw [if_pos (by rfl)]
      obtain ⟨u1, u2, u3, u4, u5, u6⟩ := HQ.out
      go_simp
      exact hK _ _ (Below.refl _ _) rfl
    · intro ys wx hw hd K hK
      simp only [putL, Act.put, List.setIfInBounds_toArray, List.set_cons_zero, List.set_cons_succ, Nat.zero_add, Nat.reduceAdd] at hK ⊢
      rw [if_pos (by rfl)]
      go_simp
      exact hK _ _ (Below.refl _ _) rfl
    · intro ys wx hw hd K hK
      have e3 : ys 3 = _ := hd 3 (by decide)
      simp only [putL, Act.put, List.setIfInBounds_toArray, List.set_cons_zero, List.set_cons_succ, Nat.zero_add, Nat.reduceAdd, e3] at hK ⊢
      rw [if_pos (by rfl)]
      obtain ⟨kb0, kb1, kb2, kb3, kb4, kb5, kb6, _⟩ := (HH.out.2.1.grow hw).seven_
      go_simp
      exact hK _ _ (Below.refl _ _) rfl
    · intro ys wx hw hd K hK
      have e4 : ys 4 = _ := hd 4 (by decide)
      simp only [putL, Act.put, List.setIfInBounds_toArray, List.set_cons_zero, List.set_cons_succ, Nat.zero_add, Nat.reduceAdd, e4] at hK ⊢
      rw [if_pos (by rfl)]
      obtain ⟨u1, u2, u3, u4, u5, u6⟩ := HQ.out
      go_simp
      exact hK _ _ (Below.refl _ _) rfl
    · intro ys wx hw hd K hK
      have e2 : ys 2 = _ := hd 2 (by decide)
      simp only [putL, Act.put, List.setIfInBounds_toArray, List.set_cons_zero, List.set_cons_succ, Nat.zero_add, Nat.reduceAdd, e2] at hK ⊢
      rw [if_pos (by rfl)]
      go_simp
      exact hK _ _ (Below.refl _ _) rfl
    · intro ys wx hw hd K hK
      have e5 : ys 5 = _ := hd 5 (by decide)
      simp only [putL, Act.put, List.setIfInBounds_toArray, List.set_cons_zero, List.set_cons_succ, Nat.zero_add, Nat.reduceAdd, e5] at hK ⊢
      rw [if_pos (by rfl)]
      go_simp
      exact hK _ _ (Below.refl _ _) rfl
  · intro ys w' hl' hV
    have e6 : ys 6 = _ := hV 6 (by decide)
    have e7 : ys 7 = _ := hV 7 (by decide)
    clear hV
    simp only [putL, Act.put, List.setIfInBounds_toArray, List.set_cons_zero, List.set_cons_succ, Nat.zero_add, Nat.reduceAdd, e6, e7]
    clear e6 e7
    obtain ⟨y0, y1, y2, y3, y4, y5, y6⟩ := (HH.out.2.1.grow hl').seven
    obtain ⟨x0, x1, x2, x3⟩ := (HH.out.1.grow hl').two
    have hbe := HH.out.2.2.trans (hl'.mono HH.out.2.2.size)
    have hu1' := (hl'.cell (World.block_lt_of_cell? _ _ hu1)).trans hu1
    have hu2' := (hl'.cell (World.block_lt_of_cell? _ _ hu2)).trans hu2
    have hR' := okB.grow HR.out hl'
    have HR' := Lib.hid hR'
    clear hl' hu1 hu2 HR hR'
    go_wp2_with fail
    refine (cell_There (d : Int) (t : Int) _).mono ?_
    rintro e w2 ⟨rfl, hw2⟩
    subst hw2
    rw [HT.out]
    have r1 : (d : Int) < 4 := by omega
    have r0 : (0 : Int) ≤ d := by omega
    have r2 : (d : Int).toNat = d := by omega
    have r3 : (t : Int) < 3 := by omega
    have r4 : (0 : Int) ≤ t := by omega
    have r5 : (t : Int).toNat = t := by omega
    go_wp2_with fail
    refine (cell_Read (cellAt a.disks d t) (d : Int) (t : Int) _ _ _ HR'.out).mono ?_
    rintro e w2 ⟨v2, rfl, _, hb2⟩
    have hbf := hbe.trans (hb2.mono hbe.size)
    obtain ⟨q, hq⟩ : ∃ q, (readC (cellAt a.disks d t) (d : Int) (t : Int)).2 = q := ⟨_, rfl⟩
    rw [hq] at HP ⊢
    clear hq hb2
    have HF : Hid (againA a s = (q != 0)) := Lib.hid (by rw [HP.out]; rfl)
    go_wp2
    go_ret
    exact ⟨by rw [HF.out]; rfl, hbf⟩
theorem lists_wrong {l : List Bs} {s : Step} (h : wrongI s.deed ≠ 0) : listsA l s = [l] := by unfold listsA; rw [if_pos h]
theorem lists_none {l : List Bs} {s : Step} (h1 : s.kind ≠ 1) (h2 : s.kind ≠ 2) : listsA l s = [l] := by unfold listsA; rw [if_neg h1, if_neg h2]; split <;> rfl
theorem lists_one {l : List Bs} {s : Step} (h : wrongI s.deed = 0) (h1 : s.kind = 1) : listsA l s = [doD l s.deed] := by unfold listsA; rw [if_neg (by simpa using h), if_pos h1]
theorem lists_two {l : List Bs} {s : Step} (h : wrongI s.deed = 0) (h2 : s.kind = 2) : listsA l s = [l, doD l s.deed] := by unfold listsA; rw [if_neg (by simpa using h), if_neg (by omega), if_pos h2]
set_option maxRecDepth 100000 in
set_option maxHeartbeats 1600000 in
theorem may_Lists (l : List Bs) (s : Step) (v vs : Value) (F : Fp) {F2 : Fp} (w : World) (h : RdBB w F v l) (hs : RdSt w F2 vs s) (hl9 : l.length = 9) :
    Calls Try.prog 50 #[v, vs] w fun e w' => ∃ v', e = .returned v' ∧ RdBBB w' (fun _ => True) v' (listsA l s) ∧ Below w.heap.size w w' := by
  obtain ⟨A, c, rfl, _, hcm⟩ := h.shape
  rw [hl9] at h ⊢
  unfold maxLen at hcm
  obtain ⟨dv, rfl, hsn, hdv⟩ := hs
  obtain ⟨Ad, cd, rfl, _, _⟩ := hdv.shape
  have hX := boxAt_new w 68 [.int .i64 s.kind, .int .i64 s.n, .int .i64 s.m, .int .i64 s.deed.kind, .int .i64 s.deed.n, .int .i64 s.deed.m, .slice Ad s.deed.data.length cd]
  have hB := below_alloc w (.cells #[.int .i64 s.kind, .int .i64 s.n, .int .i64 s.m, .int .i64 s.deed.kind, .int .i64 s.deed.n, .int .i64 s.deed.m, .slice Ad s.deed.data.length cd] 68)
  have hsz := alloc_size w (.cells #[.int .i64 s.kind, .int .i64 s.n, .int .i64 s.m, .int .i64 s.deed.kind, .int .i64 s.deed.n, .int .i64 s.deed.m, .slice Ad s.deed.data.length cd] 68)
  obtain ⟨w1, hW⟩ : ∃ x, w.alloc (.cells #[.int .i64 s.kind, .int .i64 s.n, .int .i64 s.m, .int .i64 s.deed.kind, .int .i64 s.deed.n, .int .i64 s.deed.m, .slice Ad s.deed.data.length cd] 68) = x := ⟨_, rfl⟩
  change BoxAt (w.alloc (.cells #[.int .i64 s.kind, .int .i64 s.n, .int .i64 s.m, .int .i64 s.deed.kind, .int .i64 s.deed.n, .int .i64 s.deed.m, .slice Ad s.deed.data.length cd] 68)) _ _ _ at hX
  rw [hW] at hX hB hsz
  have HSZ := Lib.hid hsz
  have HX := Lib.hid hX
  have HB := Lib.hid hB
  have HR := Lib.hid (okBB.lt (okBB.grow (okBB.lt h) hB))
  have HD := Lib.hid (okB.grow hdv hB)
  have HL := Lib.hid hl9
  have hone : ∀ (w' : World) (u : Value) (x : List Bs) (_ : Below w.heap.size w w') (_ : RdBB w' (fun _ => True) u x), RdBBB (w'.alloc (.cells #[u] 41)) (fun _ => True) (.slice (some ⟨w'.heap.size, 0, none⟩) 1 1) [x] ∧ Below w.heap.size w (w'.alloc (.cells #[u] 41)) := fun w' u x hb hu =>
    ⟨RdL.one_ okBB hu _ trivial, hb.trans ((below_alloc w' _).mono hb.size)⟩
  have HO := Lib.hid hone
  obtain ⟨y0, y1, y2, y3, y4, y5, y6⟩ := hX.seven
  clear hX hB hsz h hdv hl9 hone
  by_cases h1 : s.kind = 1
  rotate_left
  · by_cases h2 : s.kind = 2
    rotate_left
    · have e1 : (s.kind != 1) = true := by simpa using h1
      have e2 : (s.kind != 2) = true := by simpa using h2
      have HF := Lib.hid (HO.out w1 (.slice A 9 c) l HB.out (okBB.mono HR.out fun _ _ => trivial))
      rw [lists_none h1 h2]
      clear h1 h2
      go_enter Try.func50, Try.ntmps50
      go_wp2
      go_ret
      exact ⟨_, rfl, HF.out.1, HF.out.2⟩
    · have e1 : (s.kind != 1) = true := by simpa using h1
      have e2 : (s.kind != 2) = false := by simpa using h2
      have e3 : (s.kind == 1) = false := by simpa using h1
      rw [h2] at hW HX y0 ⊢
      go_enter Try.func50, Try.ntmps50
      go_wp2_with fail
      clear hW
      refine (model_Wrong s.deed _ _ _ ⟨_, rfl, HD.out⟩).mono ?_
      rintro e w2 ⟨rfl, hb2⟩
      have HX2 := Lib.hid (HX.out.grow hb2)
      have HB2 := Lib.hid (HB.out.trans (hb2.mono HB.out.size))
      have HR2 := Lib.hid (okBB.grow HR.out hb2)
      have HD2 := Lib.hid (okB.grow HD.out hb2)
      clear y0 y1 y2 y3 y4 y5 y6 hb2
      obtain ⟨y0, y1, y2, y3, y4, y5, y6⟩ := HX2.out.seven
      by_cases hr : wrongI s.deed = 0
      rotate_left
      · have HF := Lib.hid (HO.out w2 (.slice A 9 c) l HB2.out (okBB.mono HR2.out fun _ _ => trivial))
        have HLW := Lib.hid (lists_wrong (l := l) hr)
        have hne : (wrongI s.deed != 0) = true := by simpa using hr
        clear hr
        go_wp2
        go_ret
        exact ⟨_, rfl, by rw [HLW.out]; exact HF.out.1, HF.out.2⟩
      rw [hr]
      have HLR := Lib.hid (lists_two (l := l) hr h2)
      have HRR := Lib.hid hr
      clear hr h2
      go_wp2_with fail
      refine (model_Do l s.deed _ _ (fun _ => True) _ (okBB.mono HR2.out fun _ _ => trivial) ⟨_, rfl, okB.mono HD2.out fun _ _ => trivial⟩ HL.out HRR.out).mono ?_
      rintro e w3 ⟨v3, rfl, hv3, hb3⟩
      have hr3 : RdBB w3 (fun _ => True) v3 (doD l s.deed) := okBB.mono (hv3.toRd_ okB) fun _ _ => trivial
      obtain ⟨A3, c3, rfl, _, _⟩ := hr3.shape
      rw [doD_length, HL.out] at hr3 ⊢
      have HB3 := HB2.out.trans (hb3.mono HB2.out.size)
      have hr0 : RdBB w3 (fun _ => True) (.slice A 9 c) l := okBB.mono (okBB.grow HR2.out hb3) fun _ _ => trivial
      have HF : Hid (RdBBB (w3.alloc (.cells #[.slice A 9 c, .slice A3 9 c3] 41)) (fun _ => True) (.slice (some ⟨w3.heap.size, 0, none⟩) 2 2) [l, doD l s.deed] ∧ Below w.heap.size w (w3.alloc (.cells #[.slice A 9 c, .slice A3 9 c3] 41))) := Lib.hid ⟨RdL.two_ okBB hr0 hr3 _ trivial, HB3.trans ((below_alloc w3 _).mono HB3.size)⟩
      clear hr3 HB3 hb3 hv3 hr0
      go_wp2
      go_ret
      exact ⟨_, rfl, by rw [HLR.out]; exact HF.out.1, HF.out.2⟩
  · have e1 : (s.kind != 1) = false := by simpa using h1
    have e3 : (s.kind == 1) = true := by simpa using h1
    rw [h1] at hW HX y0 ⊢
    go_enter Try.func50, Try.ntmps50
    go_wp2_with fail
    clear hW
    refine (model_Wrong s.deed _ _ _ ⟨_, rfl, HD.out⟩).mono ?_
    rintro e w2 ⟨rfl, hb2⟩
    have HX2 := Lib.hid (HX.out.grow hb2)
    have HB2 := Lib.hid (HB.out.trans (hb2.mono HB.out.size))
    have HR2 := Lib.hid (okBB.grow HR.out hb2)
    have HD2 := Lib.hid (okB.grow HD.out hb2)
    clear y0 y1 y2 y3 y4 y5 y6 hb2
    obtain ⟨y0, y1, y2, y3, y4, y5, y6⟩ := HX2.out.seven
    by_cases hr : wrongI s.deed = 0
    rotate_left
    · have HF := Lib.hid (HO.out w2 (.slice A 9 c) l HB2.out (okBB.mono HR2.out fun _ _ => trivial))
      have HLW := Lib.hid (lists_wrong (l := l) hr)
      have hne : (wrongI s.deed != 0) = true := by simpa using hr
      clear hr
      go_wp2
      go_ret
      exact ⟨_, rfl, by rw [HLW.out]; exact HF.out.1, HF.out.2⟩
    rw [hr]
    have HLR := Lib.hid (lists_one (l := l) hr h1)
    have HRR := Lib.hid hr
    clear hr h1
    go_wp2_with fail
    refine (model_Do l s.deed _ _ (fun _ => True) _ (okBB.mono HR2.out fun _ _ => trivial) ⟨_, rfl, okB.mono HD2.out fun _ _ => trivial⟩ HL.out HRR.out).mono ?_
    rintro e w3 ⟨v3, rfl, hv3, hb3⟩
    have hr3 : RdBB w3 (fun _ => True) v3 (doD l s.deed) := okBB.mono (hv3.toRd_ okB) fun _ _ => trivial
    obtain ⟨A3, c3, rfl, _, _⟩ := hr3.shape
    rw [doD_length, HL.out] at hr3 ⊢
    have HB3 := HB2.out.trans (hb3.mono HB2.out.size)
    have HF := Lib.hid (HO.out w3 _ _ HB3 hr3)
    clear hr3 HB3 hb3 hv3
    go_wp2
    go_ret
    exact ⟨_, rfl, by rw [HLR.out]; exact HF.out.1, HF.out.2⟩
end Go.Proofs.Ytoendmbgfbhidaa

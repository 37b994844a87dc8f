/- Chapter 1: what sum.Of, sum.Seal, sum.Sealed and the reference's three compute. -/
import Derived.Test.YtlbnkoahkfhimaaBase
import Derived.Test.YtlbnkoahkfhimaaRegion
namespace Go.Proofs.Ytlbnkoahkfhimaa
set_option linter.unusedVariables false
open Go Go.RowKit M

set_option maxHeartbeats 400000 in
theorem sum_Of (b : Bs) (v : Value) (F : Fp) (w : World) (h : RdB w F v b) :
    Calls Try.prog 80 #[v] w fun e w' => e = .returned (.int .i64 ((sumOf b : Nat) : Int)) ∧ w = w' := by
  obtain ⟨A, c, rfl, hc1, hc2⟩ := h.shape
  unfold maxLen at hc2
  go_enter Try.func80, Try.ntmps80
  go_wp2
  go_loop [3, 8] (fun s i => ∃ k : Nat, k ≤ b.length ∧ i = .int .i64 k ∧ s = .int .i64 (sumI b k)) (fun _ i => b.length - (intOf i).toNat)
  case atStart => exact ⟨0, Nat.zero_le _, rfl, rfl⟩
  case round =>
    obtain ⟨k, hk, rfl, rfl⟩ := hrel
    have s0 := sumI_lo b k
    have s1 := sumI_hi b k
    by_cases hlt : k < b.length
    · obtain ⟨bb, off, u, rfl, _, hu, hR⟩ := h.at_ hlt
      cases hR
      have e0 := at8_get hlt
      have hs := Lib.hid (sumI_succ hlt)
      unfold B8 at hu
      rw [← e0] at hu
      clear e0
      have a0 := at8_lo b k
      have a1 := at8_hi b k
      go_wp2
      go_round
      case rel => exact ⟨k + 1, by omega, by go_num, by rw [hs.out]⟩
      case measure => simp [intOf]; omega
    · go_wp2
      obtain rfl : k = b.length := by omega
      go_ret
      exact ⟨ret_int (sumI_all b), rfl⟩
set_option maxHeartbeats 400000 in
theorem ref_Sum (b : Bs) (v : Value) (F : Fp) (w : World) (h : RdB w F v b) :
    Calls Try.prog 81 #[v] w fun e w' => e = .returned (.int .i64 ((sumOf b : Nat) : Int)) ∧ w = w' := by
  obtain ⟨A, c, rfl, hc1, hc2⟩ := h.shape
  unfold maxLen at hc2
  go_enter Try.func81, Try.ntmps81
  go_wp2
  go_loop [3, 7] (fun s i => ∃ k : Nat, k ≤ b.length ∧ i = .int .i64 k ∧ s = .int .i64 (sumI b k)) (fun _ i => b.length - (intOf i).toNat)
  case atStart => exact ⟨0, Nat.zero_le _, rfl, rfl⟩
  case round =>
    obtain ⟨k, hk, rfl, rfl⟩ := hrel
    have s0 := sumI_lo b k
    have s1 := sumI_hi b k
    by_cases hlt : k < b.length
    · obtain ⟨bb, off, u, rfl, _, hu, hR⟩ := h.at_ hlt
      cases hR
      have e0 := at8_get hlt
      have hs := Lib.hid (sumI_succ hlt)
      unfold B8 at hu
      rw [← e0] at hu
      clear e0
      have a0 := at8_lo b k
      have a1 := at8_hi b k
      go_wp2
      go_round
      case rel => exact ⟨k + 1, by omega, by go_num, by rw [hs.out]; congr 2; omega⟩
      case measure => simp [intOf]; omega
    · go_wp2
      obtain rfl : k = b.length := by omega
      go_ret
      exact ⟨ret_int (sumI_all b), rfl⟩
set_option maxHeartbeats 400000 in
theorem sum_Seal (b : Bs) (v : Value) (F : Fp) (w : World) (h : RdB w F v b) (hlen : b.length ≤ 140737488355326) :
    Calls Try.prog 77 #[v] w fun e w' => ∃ v', e = .returned v' ∧ Bld R8 5 w' w.heap.size (fun _ => True) v' (sealB b) ∧ Below w.heap.size w w' := by
  obtain ⟨A, c, rfl, hc1, hc2⟩ := h.shape
  have s0 : 0 ≤ ((sumOf b : Nat) : Int) := by omega
  have s1 : ((sumOf b : Nat) : Int) < 65521 := by have := sumOf_lt b; omega
  generalize hs : ((sumOf b : Nat) : Int) = s at *
  have HS := Lib.hid hs
  clear hs
  go_enter Try.func77, Try.ntmps77
  go_wp2_with fail
  refine (sum_Of b _ F w h).mono ?_
  rintro e w' ⟨rfl, rfl⟩
  rw [HS.out]
  have h0 := okB.mono h (F' := fun k => some k ≠ Value.ownBlock (.slice none 0 0) ∧ True) (by simp [Value.ownBlock])
  go_wp2_with (at_builtin; refine wpList_append_bld _ rfl _ _ 23 rfl ok8 slB w.heap.size (fun _ => True) _ _ [] b rfl rfl (Bld.nil_ _ _ _ _ _) h0 ?c1 ?c2 ?c3)
  case c1 => simp; omega
  case c2 => exact Nat.le_refl _
  case c3 =>
  intro v1 w1 hb1 hl1 hg1 ho1
  clear h0 h hg1 ho1
  have e1 : (R8 w1 (fun k => some k ≠ v1.ownBlock ∧ True) (.int .u8 (s / 256)) (UInt8.ofNat (sumOf b / 256))) := R8_of (by have := sumOf_lt b; rw [← HS.out]; omega)
  have e2 : (R8 w1 (fun k => some k ≠ v1.ownBlock ∧ True) (.int .u8 (s % 256)) (UInt8.ofNat (sumOf b))) := R8_of (by have := sumOf_lt b; rw [← HS.out]; omega)
  have h2 := RdL.two_ ok8 e1 e2 5 ⟨not_own fun k hk => (hb1.blk k hk).2, trivial⟩
  have hb2 := hb1.alloc ok8 (.cells #[.int .u8 (s / 256), .int .u8 (s % 256)] 5)
  have hl2 : Below w.heap.size w (w1.alloc (.cells #[.int .u8 (s / 256), .int .u8 (s % 256)] 5)) := hl1.alloc hl1.size _
  clear hb1 e1 e2
  go_wp2_with (at_builtin; refine wpList_append_bld _ rfl _ _ 23 rfl ok8 slB w.heap.size (fun _ => True) _ _ b _ rfl rfl hb2 h2 ?c1 ?c2 ?c3)
  case c1 => simp; omega
  case c2 => have := hl2.size; omega
  case c3 =>
  intro v3 w3 hb3 hl3 hg3 ho3
  clear hb2 h2 hg3 ho3
  go_wp2
  go_ret
  exact ⟨_, rfl, hb3, hl2.trans hl3⟩
theorem sum_Sealed_short (b : Bs) (v : Value) (F : Fp) (w : World) (h : RdB w F v b) (hl : b.length < 2) :
    Calls Try.prog 74 #[v] w fun e w' => e = .returned (.bool (sealedB b)) ∧ w = w' := by
  have hs : sealedB b = false := by unfold sealedB; simp; omega
  rw [hs]
  obtain ⟨A, c, rfl, hc1, hc2⟩ := h.shape
  unfold maxLen at hc2
  go_enter Try.func74, Try.ntmps74
  go_wp2
  go_ret
  exact ⟨rfl, rfl⟩
set_option maxHeartbeats 400000 in
theorem sum_Sealed_core (n c bb off : Nat) (x y s : Int) (t : Bs) (F : Fp) (w : World) (hp : RdB w F (.slice (some ⟨bb, off, none⟩) n c) t) (HS : Hid (((sumOf t : Nat) : Int) = s))
    (hu1 : w.cell? ⟨bb, off + n, none⟩ = some (.int .u8 x)) (hu2 : w.cell? ⟨bb, off + (n + 1), none⟩ = some (.int .u8 y)) (hc1 : n + 2 ≤ c) (hc2 : c ≤ maxLen)
    (a0 : 0 ≤ x) (a1 : x ≤ 255) (a2 : 0 ≤ y) (a3 : y ≤ 255) (s0 : 0 ≤ s) (s1 : s < 65521) :
    Calls Try.prog 74 #[.slice (some ⟨bb, off, none⟩) (n + 2) c] w fun e w' => e = .returned (.bool (x == s / 256 && y == s % 256)) ∧ w = w' := by
  unfold maxLen at hc2
  by_cases h1 : x = s / 256
  · subst h1
    by_cases h2 : y = s % 256
    · subst h2
      go_enter Try.func74, Try.ntmps74
      go_wp2_with fail
      refine (sum_Of _ _ F w hp).mono ?_
      rintro e w' ⟨rfl, rfl⟩
      rw [HS.out]
      go_wp2
      go_ret
      exact ⟨ret_bool (by simp), rfl⟩
    · have h2' : (y == s % 256) = false := by simpa using h2
      go_enter Try.func74, Try.ntmps74
      go_wp2_with fail
      refine (sum_Of _ _ F w hp).mono ?_
      rintro e w' ⟨rfl, rfl⟩
      rw [HS.out]
      go_wp2
      go_ret
      exact ⟨ret_bool (by simp [h2']), rfl⟩
  · have h1' : (x == s / 256) = false := by simpa using h1
    go_enter Try.func74, Try.ntmps74
    go_wp2_with fail
    refine (sum_Of _ _ F w hp).mono ?_
    rintro e w' ⟨rfl, rfl⟩
    rw [HS.out]
    go_wp2
    go_ret
    exact ⟨ret_bool (by simp [h1']), rfl⟩
theorem sum_Sealed (b : Bs) (v : Value) (F : Fp) (w : World) (h : RdB w F v b) :
    Calls Try.prog 74 #[v] w fun e w' => e = .returned (.bool (sealedB b)) ∧ w = w' := by
  by_cases hl : b.length < 2
  · exact sum_Sealed_short b v F w h hl
  have hsa := sealedB_at (b := b) (by omega)
  have s1 := sumOf_lt (b.take (b.length - 2))
  obtain ⟨A, c, rfl, hc1, hc2⟩ := h.shape
  obtain ⟨bb, off, u1, rfl, _, hu1, hR1⟩ := h.at_ (k := b.length - 2) (by omega)
  obtain ⟨bb', off', u2, hA, _, hu2, hR2⟩ := h.at_ (k := b.length - 1) (by omega)
  injection hA with hA
  injection hA with hA1 hA2
  subst hA1
  subst hA2
  cases hR1
  cases hR2
  have hp := h.part (i := 0) (j := b.length - 2) (Nat.zero_le _) (by omega) c (by omega) hc2
  simp only [Nat.add_zero, Nat.sub_zero, List.drop_zero] at hp
  have e1 := at8_get (b := b) (j := b.length - 2) (by omega)
  have e2 := at8_get (b := b) (j := b.length - 1) (by omega)
  unfold B8 at hu1 hu2
  rw [← e1] at hu1
  rw [← e2, show b.length - 1 = (b.length - 2) + 1 by omega] at hu2
  have := sum_Sealed_core (b.length - 2) c bb off _ _ _ _ F w hp rfl hu1 hu2 (by omega) hc2 (at8_lo _ _) (at8_hi _ _) (at8_lo _ _) (at8_hi _ _) (by omega) (by omega)
  rw [show b.length - 2 + 1 = b.length - 1 by omega, show b.length - 2 + 2 = b.length by omega] at this
  rw [hsa]
  exact this
set_option maxHeartbeats 400000 in
theorem ref_Seal (b : Bs) (v : Value) (F : Fp) (w : World) (h : RdB w F v b) (hlen : b.length ≤ 140737488355326) :
    Calls Try.prog 78 #[v] w fun e w' => ∃ v', e = .returned v' ∧ Bld R8 5 w' w.heap.size (fun _ => True) v' (sealB b) ∧ Below w.heap.size w w' := by
  obtain ⟨A, c, rfl, hc1, hc2⟩ := h.shape
  have s0 : 0 ≤ ((sumOf b : Nat) : Int) := by omega
  have s1 : ((sumOf b : Nat) : Int) < 65521 := by have := sumOf_lt b; omega
  generalize hs : ((sumOf b : Nat) : Int) = s at *
  have HS := Lib.hid hs
  clear hs
  go_enter Try.func78, Try.ntmps78
  go_wp2_with fail
  refine (ref_Sum b _ F w h).mono ?_
  rintro e w' ⟨rfl, rfl⟩
  rw [HS.out]
  have h0 := okB.old h (below_alloc w (.cells #[] 5)) (G := fun k => some k ≠ Value.ownBlock (.slice (some ⟨w.heap.size, 0, none⟩) 0 0) ∧ True) (by simp [Value.ownBlock]; omega)
  go_wp2_with (at_builtin; refine wpList_append_bld _ rfl _ _ 23 rfl ok8 slB w.heap.size (fun _ => True) (.slice (some ⟨w.heap.size, 0, none⟩) 0 0) _ [] b rfl rfl (Bld.empty _ _ _ _ _ (Nat.le_refl _)) h0 ?c1 ?c2 ?c3)
  case c1 => simp; omega
  case c2 => simp
  case c3 =>
  intro v1 w1 hb1 hl1 hg1 ho1
  replace hl1 := (below_alloc w _).trans hl1
  clear h0 h hg1 ho1
  have e1 : (R8 w1 (fun k => some k ≠ v1.ownBlock ∧ True) (.int .u8 (s / 256)) (UInt8.ofNat (sumOf b / 256))) := R8_of (by have := sumOf_lt b; rw [← HS.out]; omega)
  have e2 : (R8 w1 (fun k => some k ≠ v1.ownBlock ∧ True) (.int .u8 (s % 256)) (UInt8.ofNat (sumOf b))) := R8_of (by rw [← HS.out]; omega)
  have h2 := RdL.two_ ok8 e1 e2 5 ⟨not_own fun k hk => (hb1.blk k hk).2, trivial⟩
  have hb2 := hb1.alloc ok8 (.cells #[.int .u8 (s / 256), .int .u8 (s % 256)] 5)
  have hl2 : Below w.heap.size w (w1.alloc (.cells #[.int .u8 (s / 256), .int .u8 (s % 256)] 5)) := hl1.alloc hl1.size _
  clear hb1 e1 e2
  go_wp2_with (at_builtin; refine wpList_append_bld _ rfl _ _ 23 rfl ok8 slB w.heap.size (fun _ => True) _ _ b _ rfl rfl hb2 h2 ?c1 ?c2 ?c3)
  case c1 => simp; omega
  case c2 => have := hl2.size; omega
  case c3 =>
  intro v3 w3 hb3 hl3 hg3 ho3
  clear hb2 h2 hg3 ho3
  go_wp2
  go_ret
  exact ⟨_, rfl, hb3, hl2.trans hl3⟩
set_option maxHeartbeats 400000 in
theorem ref_Sealed_core (n c bb off : Nat) (b t : Bs) (F : Fp) (w : World) (h : RdB w F (.slice (some ⟨bb, off, none⟩) (n + 2) c) b)  (hp : RdB w F (.slice (some ⟨bb, off, none⟩) n c) t) (hc1 : n + 2 ≤ c) (hn : n ≤ 140737488355324) (ht : t.length ≤ 140737488355324) :
    Calls Try.prog 76 #[.slice (some ⟨bb, off, none⟩) (n + 2) c] w fun e w' => e = .returned (.bool (sealB t == b)) ∧ Below w.heap.size w w' := by
  have hd1 : (1 : Int) < n + 2 := by omega
  have q1 : IntKind.i64.wrap (n : Int) = n := IntWalk.i64_in _ (by omega)
  have q2 : n ≤ c := by omega
  go_enter Try.func76, Try.ntmps76
  go_wp2_with fail
  refine region_list [Cv (.slice (some ⟨bb, off, none⟩) (n + 2) c), Cv (.int .i64 (n + 2)), Cv (.bool true), Cv (.bool true), Cv (.slice (some ⟨bb, off, none⟩) (n + 2) c), Cv (.slice (some ⟨bb, off, none⟩) (n + 2) c), Cv (.int .i64 (n + 2)), Cv (.int .i64 n), Cv (.slice (some ⟨bb, off, none⟩) n c), Rv RdB (sealB t), Cv (.string (strB (sealB t))), Cv (.slice (some ⟨bb, off, none⟩) (n + 2) c), Cv (.string (strB b)), Cv (.bool (sealB t == b)), Cv (.bool (sealB t == b)), Cv (.bool (sealB t == b))] (by kernel_rfl) (by kernel_rfl) (by kernel_rfl) ?_ ?_ ?_
  · repeat (first | exact trivial | refine ⟨mC _, ?_⟩ | refine ⟨mR okB _, ?_⟩ | refine ⟨mT, ?_⟩ | refine ⟨mR okBB _, ?_⟩ | refine ⟨mR okBBB _, ?_⟩)
  · simp only [StepsL]
    refine ⟨?_, ?_, ?_, ?_, ?_, ?_, ?_, ?_, ?_, ?_, ?_, ?_, ?_, ?_, ?_, ?_, trivial⟩
    · intro ys wx hw hd K hK
      simp only [putL, Act.put, List.setIfInBounds_toArray, List.set_cons_zero, List.set_cons_succ, Nat.zero_add, Nat.reduceAdd] at hK ⊢
      rw [if_pos (by rfl)]
      go_simp
      exact hK _ _ (Below.refl _ _) rfl
    · intro ys wx hw hd K hK
      have e0 : ys 0 = _ := hd 0 (by decide)
      simp only [putL, Act.put, List.setIfInBounds_toArray, List.set_cons_zero, List.set_cons_succ, Nat.zero_add, Nat.reduceAdd, e0] at hK ⊢
      rw [if_pos (by rfl)]
      go_simp
      exact hK _ _ (Below.refl _ _) rfl
    · intro ys wx hw hd K hK
      have e1 : ys 1 = _ := hd 1 (by decide)
      simp only [putL, Act.put, List.setIfInBounds_toArray, List.set_cons_zero, List.set_cons_succ, Nat.zero_add, Nat.reduceAdd, e1] at hK ⊢
      rw [if_pos (by rfl)]
      go_simp
      exact hK _ _ (Below.refl _ _) rfl
    · intro ys wx hw hd K hK
      have e2 : ys 2 = _ := hd 2 (by decide)
      simp only [putL, Act.put, List.setIfInBounds_toArray, List.set_cons_zero, List.set_cons_succ, Nat.zero_add, Nat.reduceAdd, e2] at hK ⊢
      rw [if_pos (by rfl)]
      go_simp
      exact hK _ _ (Below.refl _ _) rfl
    · intro ys wx hw hd K hK
      have e3 : ys 3 = _ := hd 3 (by decide)
      simp only [putL, Act.put, List.setIfInBounds_toArray, List.set_cons_zero, List.set_cons_succ, Nat.zero_add, Nat.reduceAdd, e3] at hK ⊢
      rw [if_pos (by rfl)]
      go_simp
      exact hK _ _ (Below.refl _ _) rfl
    · intro ys wx hw hd K hK
      have e3 : ys 3 = _ := hd 3 (by decide)
      simp only [putL, Act.put, List.setIfInBounds_toArray, List.set_cons_zero, List.set_cons_succ, Nat.zero_add, Nat.reduceAdd, e3] at hK ⊢
      rw [if_pos (by rfl)]
      go_simp
      exact hK _ _ (Below.refl _ _) rfl
    · intro ys wx hw hd K hK
      have e3 : ys 3 = _ := hd 3 (by decide)
      have e5 : ys 5 = _ := hd 5 (by decide)
      simp only [putL, Act.put, List.setIfInBounds_toArray, List.set_cons_zero, List.set_cons_succ, Nat.zero_add, Nat.reduceAdd, e3, e5] at hK ⊢
      rw [if_pos (by rfl)]
      go_simp
      exact hK _ _ (Below.refl _ _) rfl
    · intro ys wx hw hd K hK
      have e3 : ys 3 = _ := hd 3 (by decide)
      have e6 : ys 6 = _ := hd 6 (by decide)
      simp only [putL, Act.put, List.setIfInBounds_toArray, List.set_cons_zero, List.set_cons_succ, Nat.zero_add, Nat.reduceAdd, e3, e6] at hK ⊢
      rw [if_pos (by rfl)]
      go_simp
      exact hK _ _ (Below.refl _ _) rfl
    · intro ys wx hw hd K hK
      have e3 : ys 3 = _ := hd 3 (by decide)
      have e4 : ys 4 = _ := hd 4 (by decide)
      have e7 : ys 7 = _ := hd 7 (by decide)
      simp only [putL, Act.put, List.setIfInBounds_toArray, List.set_cons_zero, List.set_cons_succ, Nat.zero_add, Nat.reduceAdd, e3, e4, e7] at hK ⊢
      rw [if_pos (by rfl)]
      go_simp
      exact hK _ _ (Below.refl _ _) rfl
    · intro ys wx hw hd K hK
      have e3 : ys 3 = _ := hd 3 (by decide)
      have e8 : ys 8 = _ := hd 8 (by decide)
      simp only [putL, Act.put, List.setIfInBounds_toArray, List.set_cons_zero, List.set_cons_succ, Nat.zero_add, Nat.reduceAdd, e3, e8] at hK ⊢
      rw [if_pos (by rfl)]
      go_simp
      refine (ref_Seal t _ F _ (okB.grow hp hw) (by omega)).mono ?_
      rintro e w' ⟨v', rfl, hv', hb'⟩
      exact hK _ _ hb' (hv'.toRd_ ok8)
    · intro ys wx hw hd K hK
      have e3 : ys 3 = _ := hd 3 (by decide)
      have k9 := hd 9 (by decide)
      change (Rv RdB (sealB t)) wx (ys 9) at k9
      simp only [putL, Act.put, List.setIfInBounds_toArray, List.set_cons_zero, List.set_cons_succ, Nat.zero_add, Nat.reduceAdd, e3] at hK ⊢
      rw [if_pos (by rfl)]
      have hc := run_conv k9 Try.underlying23 Try.underlying5 Try.underlying9
      go_simp
      exact hK _ _ (Below.refl _ _) rfl
    · intro ys wx hw hd K hK
      have e3 : ys 3 = _ := hd 3 (by decide)
      simp only [putL, Act.put, List.setIfInBounds_toArray, List.set_cons_zero, List.set_cons_succ, Nat.zero_add, Nat.reduceAdd, e3] at hK ⊢
      rw [if_pos (by rfl)]
      go_simp
      exact hK _ _ (Below.refl _ _) rfl
    · intro ys wx hw hd K hK
      have e3 : ys 3 = _ := hd 3 (by decide)
      have e11 : ys 11 = _ := hd 11 (by decide)
      simp only [putL, Act.put, List.setIfInBounds_toArray, List.set_cons_zero, List.set_cons_succ, Nat.zero_add, Nat.reduceAdd, e3, e11] at hK ⊢
      rw [if_pos (by rfl)]
      have hc := run_conv (okB.grow h hw) Try.underlying23 Try.underlying5 Try.underlying9
      go_simp
      exact hK _ _ (Below.refl _ _) rfl
    · intro ys wx hw hd K hK
      have e3 : ys 3 = _ := hd 3 (by decide)
      have e10 : ys 10 = _ := hd 10 (by decide)
      have e12 : ys 12 = _ := hd 12 (by decide)
      simp only [putL, Act.put, List.setIfInBounds_toArray, List.set_cons_zero, List.set_cons_succ, Nat.zero_add, Nat.reduceAdd, e3, e10, e12] at hK ⊢
      rw [if_pos (by rfl)]
      go_simp
      exact hK _ _ (Below.refl _ _) (by rw [strB_toList, strB_toList]; rfl)
    · intro ys wx hw hd K hK
      have e3 : ys 3 = _ := hd 3 (by decide)
      have e13 : ys 13 = _ := hd 13 (by decide)
      simp only [putL, Act.put, List.setIfInBounds_toArray, List.set_cons_zero, List.set_cons_succ, Nat.zero_add, Nat.reduceAdd, e3, e13] at hK ⊢
      rw [if_pos (by rfl)]
      go_simp
      exact hK _ _ (Below.refl _ _) rfl
    · intro ys wx hw hd K hK
      have e14 : ys 14 = _ := hd 14 (by decide)
      simp only [putL, Act.put, List.setIfInBounds_toArray, List.set_cons_zero, List.set_cons_succ, Nat.zero_add, Nat.reduceAdd, e14] at hK ⊢
      rw [if_pos (by rfl)]
      go_simp
      exact hK _ _ (Below.refl _ _) rfl
  · intro ys w' hl' hV
    have e15 : ys 15 = _ := hV 15 (by decide)
    clear hV
    simp only [putL, Act.put, List.setIfInBounds_toArray, List.set_cons_zero, List.set_cons_succ, Nat.zero_add, Nat.reduceAdd, e15]
    clear e15
    go_wp2
    go_ret
    exact ⟨rfl, hl'⟩
theorem ref_Sealed (b : Bs) (v : Value) (F : Fp) (w : World) (h : RdB w F v b) (hlen : b.length ≤ 140737488355326) :
    Calls Try.prog 76 #[v] w fun e w' => e = .returned (.bool (sealedB b)) ∧ Below w.heap.size w w' := by
  by_cases hl : b.length < 2
  · have hs : sealedB b = false := by unfold sealedB; simp; omega
    rw [hs]
    obtain ⟨A, c, rfl, hc1, hc2⟩ := h.shape
    unfold maxLen at hc2
    have hd : decide ((1 : Int) < b.length) = false := by simp; omega
    have hd2 : decide (1 < b.length) = false := by simp; omega
    go_enter Try.func76, Try.ntmps76
    go_wp2_with fail
    go_quiet (fail)
    go_wp2
    go_ret
    exact ⟨rfl, ⟨rfl, rfl, rfl, Nat.le_refl _, fun _ _ => rfl⟩⟩
  · obtain ⟨A, c, rfl, hc1, hc2⟩ := h.shape
    obtain ⟨bb, off, u1, rfl, _, _, _⟩ := h.at_ (k := 0) (by omega)
    have hp := h.part (i := 0) (j := b.length - 2) (Nat.zero_le _) (by omega) c (by omega) hc2
    simp only [Nat.add_zero, Nat.sub_zero, List.drop_zero] at hp
    have hs : sealedB b = (sealB (b.take (b.length - 2)) == b) := by unfold sealedB; simp; omega
    rw [hs]
    obtain ⟨n, hn⟩ : ∃ n, b.length = n + 2 := ⟨b.length - 2, by omega⟩
    rw [hn] at h hc1 ⊢
    have hn2 : b.length - 2 = n := by omega
    simp only [Nat.add_sub_cancel]
    rw [hn2] at hp
    exact ref_Sealed_core n c bb off b _ F w h hp hc1 (by omega) (by simp; omega)
end Go.Proofs.Ytlbnkoahkfhimaa

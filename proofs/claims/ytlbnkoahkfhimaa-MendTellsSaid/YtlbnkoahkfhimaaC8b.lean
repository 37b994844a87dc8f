/- Chapter 8: what the reference's Read, Blocks, Worst compute. -/
import Derived.Test.YtlbnkoahkfhimaaC8
import Derived.Test.YtlbnkoahkfhimaaC4
import Derived.Test.YtlbnkoahkfhimaaC5b
namespace Go.Proofs.Ytlbnkoahkfhimaa
set_option linter.unusedVariables false
open Go Go.RowKit M
theorem where_eq (n : Nat) : where_ n = whereN n := rfl
theorem whereN_lt {n : Nat} (h : n < 9) : whereN n < 4 ∧ n / 3 < 3 := by unfold whereN; split <;> omega
/-- An array's value, opened. -/
theorem RdA_open {w : World} {F : Fp} {v : Value} {a : Arr} (h : RdA w F v a) (hsh : Shape a.disks) : ∃ b0 o0 c0 Ai ci, v = .agg #[.slice (some ⟨b0, o0, none⟩) 4 c0, .slice Ai a.ints.length ci] ∧ RdBBB w (fun k => F k ∧ k < w.heap.size) (.slice (some ⟨b0, o0, none⟩) 4 c0) a.disks ∧ RdIs w (fun k => F k ∧ k < w.heap.size) (.slice Ai a.ints.length ci) a.ints ∧ 4 ≤ c0 ∧ c0 ≤ 9223372036854775807 := by
  obtain ⟨dv, iv, rfl, hD, hI⟩ := h
  obtain ⟨b0, o0, c0, rfl, _, _, hc0, hc1⟩ := disks_form hD hsh
  obtain ⟨Ai, ci, rfl, _, _⟩ := hI.shape
  exact ⟨b0, o0, c0, Ai, ci, rfl, okBBB.lt hD, okIs.lt hI, hc0, by unfold maxLen at hc1; omega⟩
theorem readA_out {D : List (List Bs)} {n : Int} (h : ¬ InB n) : readA D n = ([], 3) := by unfold readA; rw [if_pos h]
theorem readA_own {D : List (List Bs)} {k : Nat} (hk : k < 9) (h : (readC (cellAt D (whereN k) (k / 3)) (whereN k : Nat) (k / 3 : Nat)).2 = 0) : readA D (k : Nat) = ((readC (cellAt D (whereN k) (k / 3)) (whereN k : Nat) (k / 3 : Nat)).1, 0) := by
  unfold readA
  rw [if_neg (by simp; omega)]
  simp only [Int.toNat_natCast]
  rw [if_pos h]
theorem readA_lost {D : List (List Bs)} {k : Nat} (hk : k < 9) (h : (readC (cellAt D (whereN k) (k / 3)) (whereN k : Nat) (k / 3 : Nat)).2 ≠ 0) (h2 : (dataL (cellsA D (k / 3)) (k / 3)).2 ≠ 0) : readA D (k : Nat) = ([], (dataL (cellsA D (k / 3)) (k / 3)).2) := by
  unfold readA
  rw [if_neg (by simp; omega)]
  simp only [Int.toNat_natCast]
  rw [if_neg h, if_pos h2]
theorem readA_had {D : List (List Bs)} {k : Nat} (hk : k < 9) (h : (readC (cellAt D (whereN k) (k / 3)) (whereN k : Nat) (k / 3 : Nat)).2 ≠ 0) (h2 : (dataL (cellsA D (k / 3)) (k / 3)).2 = 0) : readA D (k : Nat) = ((dataL (cellsA D (k / 3)) (k / 3)).1.getD (whereN k) [], 0) := by
  unfold readA
  rw [if_neg (by simp; omega)]
  simp only [Int.toNat_natCast]
  rw [if_neg h, if_neg (by simpa using h2)]
theorem dataL_len {l : List Bs} {s : Nat} (h : (dataL l s).2 = 0) : (dataL l s).1.length = l.length := by
  unfold dataL at h ⊢
  split
  · rename_i hb; rw [if_pos hb] at h; simp at h
  · exact datTo_len _ _ _
set_option maxRecDepth 100000 in
set_option maxHeartbeats 800000 in
theorem ref_Read (a : Arr) (n : Int) (v : Value) (F : Fp) (w : World) (h : RdA w F v a) (hsh : Shape a.disks) :
    Calls Try.prog 68 #[v, .int .i64 n] w fun e w' => ∃ v', e = .returned (.tuple #[v', .int .i64 (readA a.disks n).2]) ∧ RdB w' (fun k => F k ∨ w.heap.size ≤ k) v' (readA a.disks n).1 ∧ Below w.heap.size w w' := by
  obtain ⟨b0, o0, c0, Ai, ci, rfl, hD, hI, hc0, hc1⟩ := RdA_open h hsh
  have hA := boxAt_new w 41 [.slice (some ⟨b0, o0, none⟩) 4 c0, .slice Ai a.ints.length ci]
  have hB := below_alloc w (.cells #[.slice (some ⟨b0, o0, none⟩) 4 c0, .slice Ai a.ints.length ci] 41)
  change BoxAt (w.alloc (.cells #[.slice (some ⟨b0, o0, none⟩) 4 c0, .slice Ai a.ints.length ci] 41)) _ _ _ at hA
  have HS := Lib.hid hsh
  clear hsh
  by_cases hn : InB n
  rotate_left
  · rw [readA_out hn]
    have hn' : n < 0 ∨ 9 ≤ n := by omega
    clear hn
    go_enter Try.func68, Try.ntmps68
    go_wp2_with fail
    refine (ref_Where_no n _ hn').mono ?_
    rintro e w2 ⟨rfl, hb2⟩
    go_wp2
    go_ret2
    exact ⟨_, rfl, RdL.nil_ _ _ _ _ _ (by decide), hB.trans (hb2.mono hB.size)⟩
  obtain ⟨k, rfl⟩ := Int.eq_ofNat_of_zero_le hn.1
  have hk : k < 9 := by omega
  obtain ⟨hd4, hs3⟩ := whereN_lt hk
  clear hn
  go_enter Try.func68, Try.ntmps68
  go_wp2_with fail
  refine (ref_Where k _ hk).mono ?_
  rintro e w2 ⟨rfl, hb2⟩
  rw [where_eq]
  have HX := Lib.hid (Int.natCast_ediv k 3)
  obtain ⟨d, hd⟩ : ∃ d, whereN k = d := ⟨_, rfl⟩
  obtain ⟨s, hs⟩ : ∃ s, k / 3 = s := ⟨_, rfl⟩
  have R1 := @readA_own a.disks k hk
  have R2 := @readA_lost a.disks k hk
  have R3 := @readA_had a.disks k hk
  rw [hd, hs] at R1 R2 R3
  rw [hd] at hd4 ⊢
  rw [hs] at hs3 ⊢
  have HR1 := Lib.hid R1
  have HR2 := Lib.hid R2
  have HR3 := Lib.hid R3
  clear R1 R2 R3 hd hs HX
  have hA2 := hA.grow hb2
  have hB2 := hB.trans (hb2.mono hB.size)
  have hD2 := okBBB.grow hD hB2
  have hI2 := okIs.grow hI hB2
  obtain ⟨b1, o1, c1, A3, c3, hu1, hc2, hc3, hu2, hR⟩ := disks_cell hD2 HS.out hd4 hs3
  unfold maxLen at hc3
  obtain ⟨x0, x1, _⟩ := hA2.two
  clear hb2 hA hB
  go_wp2_with fail
  refine (ref_CellRead _ d s _ _ _ hR).mono ?_
  rintro e w3 ⟨v3, rfl, hr3, hb3⟩
  have hB3 := hB2.trans (hb3.mono hB2.size)
  have hA3 := hA2.grow hb3
  clear x0 x1 hu1 hu2
  by_cases h0 : (readC (cellAt a.disks d s) d s).2 = 0
  · have H0 := Lib.hid h0
    rw [h0]
    have HR := Lib.hid (okB.mono hr3 (F' := fun k => F k ∨ w.heap.size ≤ k) fun _ hk => .inl hk.1)
    clear h0 hr3
    go_wp2
    go_ret2
    rw [HR1.out H0.out]
    exact ⟨_, rfl, HR.out, hB3⟩
  have h0' : ((readC (cellAt a.disks d s) d s).2 == 0) = false := by simpa using h0
  have H0 := Lib.hid h0
  generalize hrr : (readC (cellAt a.disks d s) d s).2 = r at *
  have HRR := Lib.hid hrr
  obtain ⟨y0, y1, _⟩ := hA3.two
  clear h0 hrr hr3
  go_wp2_with fail
  refine (ref_Cells a s _ _ _ ⟨_, _, rfl, okBBB.grow hD2 hb3, okIs.grow hI2 hb3⟩ HS.out hs3).mono ?_
  rintro e w4 ⟨v4, rfl, hv4, hb4⟩
  have hB4 := hB3.trans (hb4.mono hB3.size)
  have hr4 := hv4.toRd okB (F := fun k => F k ∨ w.heap.size ≤ k) (fun k hk => .inr (Nat.le_trans hB3.size hk)) (fun k hk => hk.elim (fun h => .inl h.1) fun h => .inr (Nat.le_trans hB3.size h))
  have HL4 := Lib.hid (show (cellsA a.disks s).length = 4 by rw [cellsA_len, HS.out.1])
  clear y0 y1 hv4
  go_wp2_with fail
  refine (ref_Data (cellsA a.disks s) s _ _ _ hr4 (by rw [HL4.out]; decide)).mono ?_
  rintro e w5 ⟨v5, rfl, hv5, hb5⟩
  have hB5 := hB4.trans (hb5.mono hB4.size)
  by_cases h9 : (dataL (cellsA a.disks s) s).2 = 0
  · have HL5 := Lib.hid (show (dataL (cellsA a.disks s) s).1.length = 4 by rw [dataL_len h9, HL4.out])
    have H3 := Lib.hid (HR3.out H0.out h9)
    rw [h9]
    have hr5 := hv5.toRd okB (F := fun k => F k ∨ w.heap.size ≤ k) (fun k hk => .inr (Nat.le_trans hB4.size hk)) (fun k hk => hk.elim id fun h => .inr (Nat.le_trans hB4.size h))
    obtain ⟨g5, o5, c5, rfl, _, _, _, _⟩ := hr5.form (by rw [HL5.out]; decide)
    have hl5 := HL5.out
    rw [hl5] at hr5 ⊢
    obtain ⟨u, hu, hRu⟩ := RdL_q hr5 (k := d) (x := (dataL (cellsA a.disks s) s).1.getD d []) (by simp [List.getD, List.getElem?_eq_getElem (show d < (dataL (cellsA a.disks s) s).1.length by omega)])
    have HRu := Lib.hid hRu
    clear hv5 hr5 hRu hl5 h9 hb5 HR1 HR2 HR3
    go_wp2
    go_ret2
    rw [H3.out]
    exact ⟨_, rfl, HRu.out, hB5⟩
  · have H3 := Lib.hid (HR2.out H0.out h9)
    have h9' : ((dataL (cellsA a.disks s) s).2 != 0) = true := by simpa using h9
    clear hv5 HR1 HR2 HR3 h9
    generalize (dataL (cellsA a.disks s) s).2 = q at *
    go_wp2
    go_ret2
    rw [H3.out]
    exact ⟨_, rfl, RdL.nil_ _ _ _ _ _ (by decide), hB5⟩
/-- The first error of the blocks. -/
theorem blocksE_first {D : List (List Bs)} {k : Nat} (hk : k < 9) (h : ∀ j, j < k → (readA D (j : Nat)).2 = 0) (he : (readA D (k : Nat)).2 ≠ 0) : blocksE D = (readA D (k : Nat)).2 := by
  unfold blocksE
  have : ((List.range 9).map fun n => (readA D (n : Nat)).2).find? (fun e => e ≠ 0) = some (readA D (k : Nat)).2 := by
    rw [List.find?_eq_some_iff_getElem]
    refine ⟨by simpa using he, k, by simpa using hk, by simp, fun j hj => ?_⟩
    simp [h j hj]
  rw [this]
  rfl
theorem blocksE_none {D : List (List Bs)} (h : ∀ j, j < 9 → (readA D (j : Nat)).2 = 0) : blocksE D = 0 := by
  unfold blocksE
  have : ((List.range 9).map fun n => (readA D (n : Nat)).2).find? (fun e => e ≠ 0) = none := by
    rw [List.find?_eq_none]
    intro e he
    simp only [List.mem_map, List.mem_range] at he
    obtain ⟨j, hj, rfl⟩ := he
    simp [h j hj]
  rw [this]
  rfl
theorem blocksTo_next (D : List (List Bs)) (k : Nat) : blocksTo D (k + 1) = blocksTo D k ++ [(readA D (k : Nat)).1] := by unfold blocksTo; rw [List.range_succ]; simp
theorem blocksTo_len (D : List (List Bs)) (k : Nat) : (blocksTo D k).length = k := by simp [blocksTo]
set_option maxRecDepth 100000 in
set_option maxHeartbeats 800000 in
theorem ref_Blocks (a : Arr) (v : Value) (F : Fp) (w : World) (h : RdA w F v a) (hsh : Shape a.disks) :
    Calls Try.prog 45 #[v] w fun e w' => ∃ v', e = .returned (.tuple #[v', .int .i64 (blocksA a.disks).2]) ∧ RdBB w' (fun k => F k ∨ w.heap.size ≤ k) v' (blocksA a.disks).1 ∧ Below w.heap.size w w' := by
  obtain ⟨b0, o0, c0, Ai, ci, rfl, hD, hI, hc0, hc1⟩ := RdA_open h hsh
  have hA := boxAt_new w 41 [.slice (some ⟨b0, o0, none⟩) 4 c0, .slice Ai a.ints.length ci]
  have hB := below_alloc w (.cells #[.slice (some ⟨b0, o0, none⟩) 4 c0, .slice Ai a.ints.length ci] 41)
  change BoxAt (w.alloc (.cells #[.slice (some ⟨b0, o0, none⟩) 4 c0, .slice Ai a.ints.length ci] 41)) _ _ _ at hA
  have HS := Lib.hid hsh
  clear hsh
  go_enter Try.func45, Try.ntmps45
  go_wp2_with fail
  generalize w.alloc (.cells #[.slice (some ⟨b0, o0, none⟩) 4 c0, .slice Ai a.ints.length ci] 41) = w1 at *
  replace hD := okBBB.grow hD hB
  replace hI := okIs.grow hI hB
  go_loopw [4, 8] (fun u i wr => ∃ k : Nat, k ≤ 9 ∧ i = .int .i64 k ∧ Bld RdB 23 wr w1.heap.size (fun k => F k ∨ w.heap.size ≤ k) u (blocksTo a.disks k) ∧ (∀ j, j < k → (readA a.disks (j : Nat)).2 = 0) ∧ Below w1.heap.size w1 wr) (fun _ i _ => 9 - (intOf i).toNat)
  case atStart => exact ⟨0, Nat.zero_le _, rfl, Bld.nil_ _ _ _ _ _, fun j hj => by omega, Below.refl _ _⟩
  case round =>
    obtain ⟨k, hk, rfl, hO, hpre, hlw⟩ := hrel
    have HP := Lib.hid hpre
    have HLW := Lib.hid hlw
    clear hpre
    by_cases hlt : k < 9
    · obtain ⟨x0, x1, _⟩ := (hA.grow hlw).two
      have HO := Lib.hid hO
      have HT := Lib.hid (show ((blocksTo a.disks k).length + 1) * 24 ≤ 140737488355328 by rw [blocksTo_len]; omega)
      have HX := Lib.hid (blocksTo_next a.disks k)
      clear hO
      go_wp2_with fail
      refine (ref_Read a k _ _ _ ⟨_, _, rfl, okBBB.grow hD hlw, okIs.grow hI hlw⟩ HS.out).mono ?_
      rintro e w2 ⟨v2, rfl, hr2, hb2⟩
      have HB2 := Lib.hid hb2
      have HB02 := Lib.hid (hB.trans ((hlw.trans (hb2.mono hlw.size)).mono hB.size))
      have hsz := hB.size
      have hszw := hlw.size
      by_cases he : (readA a.disks (k : Nat)).2 = 0
      · rw [he]
        have HE := Lib.hid he
        obtain ⟨A2, c2, rfl, _, _⟩ := hr2.shape
        have HZ := Lib.hid (okB.mono (okB.lt hr2) (F' := fun k => some k ≠ u4.ownBlock ∧ (F k ∨ w.heap.size ≤ k)) fun k hk => ⟨fun e => by
          have h1 := HO.out.blk k e.symm
          rcases hk.1 with h | h
          · have := h.2; omega
          · omega, hk.1.imp (fun h => h.1) fun h => by omega⟩)
        clear he hr2 x0 x1 hb2 hlw
        go_wp2_with (at_builtin; refine wpList_append_oneG rfl _ _ 22 rfl okB slBB w1.heap.size (fun k => F k ∨ w.heap.size ≤ k) _ _ (readA a.disks (k : Nat)).1 _ rfl (by rfl) (by rfl) (HO.out.grow okB HB2.out) HZ.out (fun k hk => .inr (Nat.le_trans hsz hk)) HT.out (Nat.le_trans hszw HB2.out.size) ?c1)
        case c1 =>
        intro v' w' hB' hb
        rw [← HX.out] at hB'
        go_wp2
        go_roundw
        case rel => exact ⟨k + 1, by omega, by go_num, hB', fun j hj => by rcases Nat.lt_succ_iff_lt_or_eq.1 hj with h | rfl; exact HP.out j h; exact HE.out, HLW.out.trans ((HB2.out.mono HLW.out.size).trans hb)⟩
        case measure => simp [intOf]; omega
      · have hbe := blocksE_first hlt HP.out he
        have HBA := Lib.hid (show blocksA a.disks = ([], (readA a.disks (k : Nat)).2) by unfold blocksA; rw [if_neg (by rw [hbe]; exact he), hbe])
        have he' : ((readA a.disks (k : Nat)).2 != 0) = true := by simpa using he
        clear hbe he hr2 x0 x1
        generalize (readA a.disks (k : Nat)).2 = q at *
        go_wp2
        go_ret2
        rw [HBA.out]
        exact ⟨_, rfl, RdL.nil_ _ _ _ _ _ (by decide), HB02.out⟩
    · obtain rfl : k = 9 := by omega
      have hbe := blocksE_none HP.out
      have HBA := Lib.hid (show blocksA a.disks = (blocksTo a.disks 9, 0) by unfold blocksA; rw [if_pos hbe])
      clear hbe
      have hr := hO.toRd okB (F := fun k => F k ∨ w.heap.size ≤ k) (fun k hk => .inr (Nat.le_trans hB.size hk)) (fun _ hk => hk)
      have HB02 := Lib.hid (hB.trans (hlw.mono hB.size))
      clear hO
      go_wp2
      go_ret2
      rw [HBA.out]
      exact ⟨_, rfl, hr, HB02.out⟩
theorem worstTo_next (D : List (List Bs)) (k : Nat) : worstTo D (k + 1) = max (worstTo D k) (badL (cellsA D k) k).length := by unfold worstTo; rw [List.range_succ]; simp
theorem badL_le (l : List Bs) (s : Nat) : (badL l s).length ≤ l.length := badTo_len l s _
set_option maxHeartbeats 800000 in
theorem ref_Worst (a : Arr) (v : Value) (F : Fp) (w : World) (h : RdA w F v a) (hsh : Shape a.disks) :
    Calls Try.prog 44 #[v] w fun e w' => e = .returned (.int .i64 ((worstA a.disks : Nat) : Int)) ∧ Below w.heap.size w w' := by
  obtain ⟨b0, o0, c0, Ai, ci, rfl, hD, hI, hc0, hc1⟩ := RdA_open h hsh
  have hA := boxAt_new w 41 [.slice (some ⟨b0, o0, none⟩) 4 c0, .slice Ai a.ints.length ci]
  have hB := below_alloc w (.cells #[.slice (some ⟨b0, o0, none⟩) 4 c0, .slice Ai a.ints.length ci] 41)
  change BoxAt (w.alloc (.cells #[.slice (some ⟨b0, o0, none⟩) 4 c0, .slice Ai a.ints.length ci] 41)) _ _ _ at hA
  have HS := Lib.hid hsh
  clear hsh
  go_enter Try.func44, Try.ntmps44
  go_wp2_with fail
  generalize w.alloc (.cells #[.slice (some ⟨b0, o0, none⟩) 4 c0, .slice Ai a.ints.length ci] 41) = w1 at *
  replace hD := okBBB.grow hD hB
  replace hI := okIs.grow hI hB
  go_loopw [3, 6] (fun u i wr => ∃ k : Nat, k ≤ 3 ∧ i = .int .i64 k ∧ u = .int .i64 ((worstTo a.disks k : Nat) : Int) ∧ worstTo a.disks k ≤ 4 ∧ Below w1.heap.size w1 wr) (fun _ i _ => 3 - (intOf i).toNat)
  case atStart => exact ⟨0, Nat.zero_le _, rfl, rfl, Nat.zero_le _, Below.refl _ _⟩
  case round =>
    obtain ⟨k, hk, rfl, rfl, hw4, hlw⟩ := hrel
    by_cases hlt : k < 3
    · obtain ⟨x0, x1, _⟩ := (hA.grow hlw).two
      have HN := Lib.hid (worstTo_next a.disks k)
      have hbl := badL_le (cellsA a.disks k) k
      have HL := Lib.hid (show (cellsA a.disks k).length = 4 by rw [cellsA_len, HS.out.1])
      rw [HL.out] at hbl
      go_wp2_with fail
      refine (ref_Cells a k _ _ _ ⟨_, _, rfl, okBBB.grow hD hlw, okIs.grow hI hlw⟩ HS.out hlt).mono ?_
      rintro e w2 ⟨v2, rfl, hv2, hb2⟩
      have hr2 := hv2.toRd_ okB
      clear x0 x1 hv2
      go_wp2_with fail
      refine (ref_Bad _ k _ _ _ hr2 (by rw [HL.out]; decide)).mono ?_
      rintro e w3 ⟨v3, rfl, hv3, hb3⟩
      obtain ⟨A3, c3, rfl, _, _⟩ := (hv3.toRd_ okI).shape
      rw [ints_len]
      have HB3 := Lib.hid (hlw.trans ((hb2.trans (hb3.mono hb2.size)).mono hlw.size))
      clear hv3 hr2 hb2 hb3 hlw
      generalize (badL (cellsA a.disks k) k).length = n at *
      generalize worstTo a.disks k = m at *
      by_cases hmn : m < n
      · have hd : decide ((m : Int) < (n : Int)) = true := by simp; omega
        go_wp2
        go_roundw
        case rel => exact ⟨k + 1, by omega, by go_num, by rw [HN.out, Nat.max_eq_right (by omega)], by rw [HN.out, Nat.max_eq_right (by omega)]; exact hbl, HB3.out⟩
        case measure => simp [intOf]; omega
      · have hd : decide ((m : Int) < (n : Int)) = false := by simp; omega
        go_wp2
        go_roundw
        case rel => exact ⟨k + 1, by omega, by go_num, by rw [HN.out, Nat.max_eq_left (by omega)], by rw [HN.out, Nat.max_eq_left (by omega)]; exact hw4, HB3.out⟩
        case measure => simp [intOf]; omega
    · obtain rfl : k = 3 := by omega
      go_wp2
      go_ret
      exact ⟨rfl, hB.trans (hlw.mono hB.size)⟩
end Go.Proofs.Ytlbnkoahkfhimaa

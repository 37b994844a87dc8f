/- Chapter 8: what array.Read and array.Blocks compute. -/
import Derived.Test.YtdcmbdghnkgghaaDoorZe
import Derived.Test.YtdcmbdghnkgghaaDoorZa
namespace Go.Proofs.YtdcmbdghnkgghaaDoor
set_option linter.unusedVariables false
open Go Go.RowKit M
set_option maxRecDepth 100000 in
set_option maxHeartbeats 1600000 in
theorem array_Read (a : Arr) (n : Int) (v : Value) (F : Fp) (w : World) (h : RdA w F v a) (hsh : Shape a.disks) :
    Calls Tryd.prog 19 #[v, .int .i64 n] w fun e w' => ∃ v', e = .returned (.tuple #[v', .int .i64 (readA a.disks n).2]) ∧ RdB w' (fun k => w.heap.size ≤ k) v' (readA a.disks n).1 ∧ Below w.heap.size w w' := by
  obtain ⟨b0, o0, c0, Ai, ci, rfl, hD, hI, hc0, hc1⟩ := RdA_open h hsh
  have hA := boxAt_new w 37 [.slice (some ⟨b0, o0, none⟩) 4 c0, .slice Ai a.ints.length ci]
  have hB := below_alloc w (.cells #[.slice (some ⟨b0, o0, none⟩) 4 c0, .slice Ai a.ints.length ci] 37)
  change BoxAt (w.alloc (.cells #[.slice (some ⟨b0, o0, none⟩) 4 c0, .slice Ai a.ints.length ci] 37)) _ _ _ at hA
  have HS := Lib.hid hsh
  clear hsh
  by_cases hn : InB n
  rotate_left
  · rw [readA_out hn]
    have hn' : n < 0 ∨ 9 ≤ n := by omega
    clear hn
    go_enter Tryd.func19, Tryd.ntmps19
    go_wp2_with fail
    refine (plan_Where_no n _ hn').mono ?_
    rintro e w2 ⟨rfl, hw2⟩
    subst hw2
    go_wp2
    go_ret2
    exact ⟨_, rfl, RdL.nil_ _ _ _ _ _ (by decide), hB⟩
  obtain ⟨k, rfl⟩ := Int.eq_ofNat_of_zero_le hn.1
  have hk : k < 9 := by omega
  obtain ⟨hd4, hs3⟩ := whereN_lt hk
  clear hn
  go_enter Tryd.func19, Tryd.ntmps19
  go_wp2_with fail
  refine (plan_Where k _ hk).mono ?_
  rintro e w2 ⟨rfl, hw2⟩
  subst hw2
  rw [where_eq]
  obtain ⟨d, hd⟩ : ∃ d, whereN k = d := ⟨_, rfl⟩
  obtain ⟨s, hs⟩ : ∃ s, k / 3 = s := ⟨_, rfl⟩
  have R1 := @readA_own a.disks k hk
  have R2 := @readA_lost a.disks k hk
  have R3 := @readA_had a.disks k hk
  rw [hd, hs] at R1 R2 R3
  rw [hd] at hd4 ⊢
  rw [hs] at hs3 ⊢
  have HR1 := Lib.hid R1
  have HR2 := Lib.hid R2
  have HR3 := Lib.hid R3
  clear R1 R2 R3 hd hs
  obtain ⟨x0, x1, _⟩ := hA.two
  go_wp2_with fail
  generalize w.alloc (.cells #[.slice (some ⟨b0, o0, none⟩) 4 c0, .slice Ai a.ints.length ci] 37) = w1 at *
  refine (stripe_Cells a s _ _ _ ⟨_, _, rfl, okBBB.grow hD hB, okIs.grow hI hB⟩ HS.out hs3).mono ?_
  rintro e w3 ⟨v3, rfl, hv3, hb3⟩
  have HL := Lib.hid (show (cellsA a.disks s).length = 4 by rw [cellsA_len, HS.out.1])
  have hr3 := hv3.toRd_ okB
  obtain ⟨g3, o3, c3, rfl, _, _, hc3, hc3m⟩ := hr3.form (by rw [HL.out]; decide)
  unfold maxLen at hc3m
  have hl3 := HL.out
  rw [hl3] at hr3 hc3 ⊢
  obtain ⟨u, hu, hRu⟩ := RdL_q hr3 (k := d) (x := cellAt a.disks d s) (by
    have h1 := cellsA_get a.disks s d
    have hlt : d < (cellsA a.disks s).length := by omega
    rw [← h1]
    simp [List.getD, List.getElem?_eq_getElem hlt])
  obtain ⟨Au, cu, rfl, _, _⟩ := hRu.shape
  have hB3 := hB.trans (hb3.mono hB.size)
  have HR3' := Lib.hid hr3
  have HRu := Lib.hid hRu
  clear hv3 hr3 hRu hb3 x0 x1 hA
  go_wp2_with fail
  refine (cell_Read _ d s _ _ _ HRu.out).mono ?_
  rintro e w4 ⟨v4, rfl, hv4, hb4⟩
  have hB4 := hB3.trans (hb4.mono hB3.size)
  have hrb := (hv4.bytes (G' := fun k => w.heap.size ≤ k)).toRd ok8 (F := fun k => w.heap.size ≤ k) (fun k hk => Nat.le_trans hB3.size hk) (fun _ hk => hk)
  by_cases h0 : (readC (cellAt a.disks d s) d s).2 = 0
  · have H1 := Lib.hid (HR1.out h0)
    rw [h0]
    have HR := Lib.hid hrb
    clear h0 hv4 hrb HR1 HR2 HR3
    go_wp2
    go_ret2
    rw [H1.out]
    exact ⟨_, rfl, HR.out, hB4⟩
  have h0' : ((readC (cellAt a.disks d s) d s).2 == 0) = false := by simpa using h0
  have H0 := Lib.hid h0
  generalize hrr : (readC (cellAt a.disks d s) d s).2 = r at *
  have hr4 := okBB.grow HR3'.out hb4
  clear h0 hrr hv4 hrb hu
  go_wp2_with fail
  refine (stripe_Data (cellsA a.disks s) s _ _ _ hr4 (by rw [HL.out]; decide)).mono ?_
  rintro e w5 ⟨v5, rfl, hv5, hb5⟩
  have hB5 := hB4.trans (hb5.mono hB4.size)
  by_cases h9 : (dataL (cellsA a.disks s) s).2 = 0
  · have HL5 := Lib.hid (show (dataL (cellsA a.disks s) s).1.length = 4 by rw [dataL_len h9, HL.out])
    have H3 := Lib.hid (HR3.out H0.out h9)
    rw [h9]
    have hr5 := hv5.toRd okB (F := fun k => w.heap.size ≤ k) (fun k hk => Nat.le_trans hB4.size hk) (fun k hk => Nat.le_trans hB4.size hk)
    obtain ⟨g5, o5, c5, rfl, _, _, _, _⟩ := hr5.form (by rw [HL5.out]; decide)
    have hl5 := HL5.out
    rw [hl5] at hr5 ⊢
    obtain ⟨u5, hu5, hRu5⟩ := RdL_q hr5 (k := d) (x := (dataL (cellsA a.disks s) s).1.getD d []) (by simp [List.getD, List.getElem?_eq_getElem (show d < (dataL (cellsA a.disks s) s).1.length by omega)])
    have HRu5 := Lib.hid hRu5
    clear hv5 hr5 hRu5 hl5 h9 hb5 HR1 HR2 HR3 hr4
    go_wp2
    go_ret2
    rw [H3.out]
    exact ⟨_, rfl, HRu5.out, hB5⟩
  · have H3 := Lib.hid (HR2.out H0.out h9)
    have h9' : ((dataL (cellsA a.disks s) s).2 != 0) = true := by simpa using h9
    clear hv5 HR1 HR2 HR3 h9 hr4
    generalize (dataL (cellsA a.disks s) s).2 = q at *
    go_wp2
    go_ret2
    rw [H3.out]
    exact ⟨_, rfl, RdL.nil_ _ _ _ _ _ (by decide), hB5⟩
set_option maxRecDepth 100000 in
set_option maxHeartbeats 800000 in
theorem array_Blocks (a : Arr) (v : Value) (F : Fp) (w : World) (h : RdA w F v a) (hsh : Shape a.disks) :
    Calls Tryd.prog 21 #[v] w fun e w' => ∃ v', e = .returned (.tuple #[v', .int .i64 (blocksA a.disks).2]) ∧ RdBB w' (fun k => F k ∨ w.heap.size ≤ k) v' (blocksA a.disks).1 ∧ Below w.heap.size w w' := by
  obtain ⟨b0, o0, c0, Ai, ci, rfl, hD, hI, hc0, hc1⟩ := RdA_open h hsh
  have hA := boxAt_new w 37 [.slice (some ⟨b0, o0, none⟩) 4 c0, .slice Ai a.ints.length ci]
  have hB := below_alloc w (.cells #[.slice (some ⟨b0, o0, none⟩) 4 c0, .slice Ai a.ints.length ci] 37)
  change BoxAt (w.alloc (.cells #[.slice (some ⟨b0, o0, none⟩) 4 c0, .slice Ai a.ints.length ci] 37)) _ _ _ at hA
  have HS := Lib.hid hsh
  clear hsh
  go_enter Tryd.func21, Tryd.ntmps21
  go_wp2_with fail
  generalize w.alloc (.cells #[.slice (some ⟨b0, o0, none⟩) 4 c0, .slice Ai a.ints.length ci] 37) = w1 at *
  replace hD := okBBB.grow hD hB
  replace hI := okIs.grow hI hB
  go_loopw [4, 8] (fun u i wr => ∃ k : Nat, k ≤ 9 ∧ i = .int .i64 k ∧ Bld RdB 22 wr w1.heap.size (fun k => F k ∨ w.heap.size ≤ k) u (blocksTo a.disks k) ∧ (∀ j, j < k → (readA a.disks (j : Nat)).2 = 0) ∧ Below w1.heap.size w1 wr) (fun _ i _ => 9 - (intOf i).toNat)
  case atStart => exact ⟨0, Nat.zero_le _, rfl, Bld.nil_ _ _ _ _ _, fun j hj => by omega, Below.refl _ _⟩
  case round =>
    obtain ⟨k, hk, rfl, hO, hpre, hlw⟩ := hrel
    have HP := Lib.hid hpre
    have HLW := Lib.hid hlw
    clear hpre
    by_cases hlt : k < 9
    · obtain ⟨x0, x1, _⟩ := (hA.grow hlw).two
      have HO := Lib.hid hO
      have HT := Lib.hid (show ((blocksTo a.disks k).length + 1) * 24 ≤ 140737488355328 by rw [blocksTo_len]; omega)
      have HX := Lib.hid (blocksTo_next a.disks k)
      clear hO
      go_wp2_with fail
      refine (array_Read a k _ _ _ ⟨_, _, rfl, okBBB.grow hD hlw, okIs.grow hI hlw⟩ HS.out).mono ?_
      rintro e w2 ⟨v2, rfl, hr2, hb2⟩
      replace hr2 := okB.mono hr2 (F' := fun k => (F k ∧ k < w.heap.size) ∨ wr.heap.size ≤ k) fun _ h => .inr h
      have HB2 := Lib.hid hb2
      have HB02 := Lib.hid (hB.trans ((hlw.trans (hb2.mono hlw.size)).mono hB.size))
      have hsz := hB.size
      have hszw := hlw.size
      by_cases he : (readA a.disks (k : Nat)).2 = 0
      · rw [he]
        have HE := Lib.hid he
        obtain ⟨A2, c2, rfl, _, _⟩ := hr2.shape
        have HZ := Lib.hid (okB.mono (okB.lt hr2) (F' := fun k => some k ≠ u4.ownBlock ∧ (F k ∨ w.heap.size ≤ k)) fun k hk => ⟨fun e => by
          have h1 := HO.out.blk k e.symm
          rcases hk.1 with h | h
          · have := h.2; omega
          · omega, hk.1.imp (fun h => h.1) fun h => by omega⟩)
        clear he hr2 x0 x1 hb2 hlw
        go_wp2_with (at_builtin; refine wpList_append_oneG rfl _ _ 38 rfl okB slBB w1.heap.size (fun k => F k ∨ w.heap.size ≤ k) _ _ (readA a.disks (k : Nat)).1 _ rfl (by rfl) (by rfl) (HO.out.grow okB HB2.out) HZ.out (fun k hk => .inr (Nat.le_trans hsz hk)) HT.out (Nat.le_trans hszw HB2.out.size) ?c1)
        case c1 =>
        intro v' w' hB' hb
        rw [← HX.out] at hB'
        go_wp2
        go_roundw
        case rel => exact ⟨k + 1, by omega, by go_num, hB', fun j hj => by rcases Nat.lt_succ_iff_lt_or_eq.1 hj with h | rfl; exact HP.out j h; exact HE.out, HLW.out.trans ((HB2.out.mono HLW.out.size).trans hb)⟩
        case measure => simp [intOf]; omega
      · have hbe := blocksE_first hlt HP.out he
        have HBA := Lib.hid (show blocksA a.disks = ([], (readA a.disks (k : Nat)).2) by unfold blocksA; rw [if_neg (by rw [hbe]; exact he), hbe])
        have he' : ((readA a.disks (k : Nat)).2 != 0) = true := by simpa using he
        clear hbe he hr2 x0 x1
        generalize (readA a.disks (k : Nat)).2 = q at *
        go_wp2
        go_ret2
        rw [HBA.out]
        exact ⟨_, rfl, RdL.nil_ _ _ _ _ _ (by decide), HB02.out⟩
    · obtain rfl : k = 9 := by omega
      have hbe := blocksE_none HP.out
      have HBA := Lib.hid (show blocksA a.disks = (blocksTo a.disks 9, 0) by unfold blocksA; rw [if_pos hbe])
      clear hbe
      have hr := hO.toRd okB (F := fun k => F k ∨ w.heap.size ≤ k) (fun k hk => .inr (Nat.le_trans hB.size hk)) (fun _ hk => hk)
      have HB02 := Lib.hid (hB.trans (hlw.mono hB.size))
      clear hO
      go_wp2
      go_ret2
      rw [HBA.out]
      exact ⟨_, rfl, hr, HB02.out⟩
end Go.Proofs.YtdcmbdghnkgghaaDoor

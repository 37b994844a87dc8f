/- Merged: C7 C7b C7c. -/
import Derived.Test.YtdcmbdghnkgghaaDoorZc
import Derived.Test.YtdcmbdghnkgghaaDoorZb
namespace Go.Proofs.YtdcmbdghnkgghaaDoor
set_option linter.unusedVariables false
open Go Go.RowKit M
theorem slI : M.SlTy Tryd.prog 53 3 8 := sl_of Tryd.underlying53 (z := .int .i64 0) (by kernel_rfl) rfl (by decide)
theorem slBBB : M.SlTy Tryd.prog 34 38 24 := sl_of Tryd.underlying34 (z := .slice none 0 0) (by kernel_rfl) rfl (by decide)
/-- Disks as numbers. -/
def ints (l : List Nat) : List Int := l.map fun n : Nat => (n : Int)
theorem ints_snoc (l : List Nat) (k : Nat) : ints l ++ [(k : Int)] = ints (l ++ [k]) := by simp [ints]
theorem ints_len (l : List Nat) : (ints l).length = l.length := by simp [ints]
set_option maxHeartbeats 800000 in
theorem stripe_Make (data : List Bs) (s : Nat) (v : Value) (F : Fp) (w : World) (h : RdBB w F v data) (hs : s < 256) (hn : data.length ≤ 200) (h4 : Blocks4 data) :
    Calls Tryd.prog 62 #[v, .int .i64 s] w fun e w' => ∃ v', e = .returned v' ∧ OwnL RdB 22 w' (fun k => w.heap.size ≤ k) v' (makeL data s) ∧ Below w.heap.size w w' := by
  obtain ⟨A, c, rfl, _, hm⟩ := h.shape
  unfold maxLen at hm
  have H4 := Lib.hid h4
  clear h4
  go_enter Tryd.func62, Tryd.ntmps62
  go_wp2_with fail
  go_loopw [5, 10] (fun u i wr => ∃ k : Nat, k ≤ data.length ∧ i = .int .i64 k ∧ OwnL RdB 22 wr (fun k => w.heap.size ≤ k) u (makeTo data s k) ∧ Below w.heap.size w wr) (fun _ i _ => data.length - (intOf i).toNat)
  case atStart => exact ⟨0, Nat.zero_le _, rfl, OwnL.nil_ _ _ _ _, Below.refl _ _⟩
  case round =>
    obtain ⟨k, hk, rfl, hO, hlw⟩ := hrel
    have HLW := Lib.hid hlw
    by_cases hlt : k < data.length
    · obtain ⟨b, off, u, rfl, _, hu, hR⟩ := (okBB.grow h hlw).at_ hlt
      obtain ⟨A2, c2, rfl, _, _⟩ := hR.shape
      have HX := Lib.hid (show makeTo data s k ++ [cellB k s data[k]] = makeTo data s (k + 1) by rw [makeTo_next]; simp [List.getD, List.getElem?_eq_getElem hlt])
      have HT := Lib.hid (show ((makeTo data s k).length + 1) * 24 ≤ 140737488355328 by rw [makeTo_len]; omega)
      have HL := Lib.hid (H4.out _ (List.getElem_mem hlt))
      have HO := Lib.hid hO
      clear hO hlw
      go_wp2_with fail
      refine (cell_Bytes k s data[k] _ _ _ hR (by omega) hs (by rw [HL.out]; decide)).mono ?_
      rintro e w2 ⟨v2, rfl, hv2, hb2⟩
      have hr2 := (hv2.bytes (G' := fun k => wr.heap.size ≤ k)).toRd ok8 (F := fun k => wr.heap.size ≤ k) (fun _ hk => hk) (fun _ hk => hk)
      obtain ⟨A3, c3, rfl, _, _⟩ := hr2.shape
      have HR2 := Lib.hid hr2
      have HB2 := Lib.hid hb2
      clear hv2 hr2 hb2
      go_wp2_with (at_builtin; refine wpList_append_apart rfl _ _ 38 rfl okB slBB w.heap.size _ _ (cellB k s data[k]) _ rfl (by rfl) (by rfl) HO.out HB2.out HR2.out HT.out HLW.out.size ?c1)
      case c1 =>
      intro v' w' hB hb
      rw [HX.out] at hB
      go_wp2
      go_roundw
      case rel => exact ⟨k + 1, by omega, by go_num, hB, HLW.out.trans ((HB2.out.mono HLW.out.size).trans hb)⟩
      case measure => simp [intOf]; omega
    · obtain rfl : k = data.length := by omega
      go_wp2
      go_ret
      exact ⟨_, rfl, hO, hlw⟩
set_option maxHeartbeats 800000 in
theorem stripe_Bad (l : List Bs) (s : Nat) (v : Value) (F : Fp) (w : World) (h : RdBB w F v l) (hn : l.length ≤ 200) :
    Calls Tryd.prog 51 #[v, .int .i64 s] w fun e w' => ∃ v', e = .returned v' ∧ Bld RI 3 w' w.heap.size (fun _ => True) v' (ints (badL l s)) ∧ Below w.heap.size w w' := by
  obtain ⟨A, c, rfl, _, hm⟩ := h.shape
  unfold maxLen at hm
  go_enter Tryd.func51, Tryd.ntmps51
  go_wp2_with fail
  go_loopw [5, 12] (fun u i wr => ∃ k : Nat, k ≤ l.length ∧ i = .int .i64 k ∧ Bld RI 3 wr w.heap.size (fun _ => True) u (ints (badTo l s k)) ∧ Below w.heap.size w wr) (fun _ i _ => l.length - (intOf i).toNat)
  case atStart => exact ⟨0, Nat.zero_le _, rfl, Bld.nil_ _ _ _ _ _, Below.refl _ _⟩
  case round =>
    obtain ⟨k, hk, rfl, hO, hlw⟩ := hrel
    have HLW := Lib.hid hlw
    by_cases hlt : k < l.length
    · obtain ⟨b, off, u, rfl, _, hu, hR⟩ := (okBB.grow h hlw).at_ hlt
      obtain ⟨A2, c2, rfl, _, _⟩ := hR.shape
      have HT := Lib.hid (show ((ints (badTo l s k)).length + 1) * 8 ≤ 140737488355328 by rw [ints_len]; have := badTo_len l s k; omega)
      have HG := Lib.hid (show l.getD k [] = l[k] by simp [List.getD, List.getElem?_eq_getElem hlt])
      have HO := Lib.hid hO
      clear hO hlw
      go_wp2_with fail
      refine (cell_Read l[k] k s _ _ _ hR).mono ?_
      rintro e w2 ⟨v2, rfl, hv2, hb2⟩
      have HB2 := Lib.hid hb2
      clear hv2 hb2
      cases hok : okC l s k with
      | true =>
        have HX := Lib.hid (badTo_ok hok)
        have h0 := okC_true.1 hok
        rw [HG.out] at h0
        rw [h0]
        clear hok h0
        go_wp2
        go_roundw
        case rel => exact ⟨k + 1, by omega, by go_num, by rw [HX.out]; exact HO.out.grow okI HB2.out, HLW.out.trans (HB2.out.mono HLW.out.size)⟩
        case measure => simp [intOf]; omega
      | false =>
        have HX := Lib.hid (badTo_bad hok)
        have h0 := okC_false.1 hok
        rw [HG.out] at h0
        have h0' : ((readC l[k] k s).2 != 0) = true := by simpa using h0
        clear hok h0
        generalize (readC l[k] k s).2 = r at *
        go_wp2_with (at_builtin; refine wpList_append_one rfl _ _ 53 rfl okI slI w.heap.size _ _ (k : Int) _ rfl (by rfl) (by rfl) (HO.out.grow okI HB2.out) rfl HT.out (Nat.le_trans HLW.out.size HB2.out.size) ?c1)
        case c1 =>
        intro v' w' hB hb
        rw [ints_snoc, ← HX.out] at hB
        go_wp2
        go_roundw
        case rel => exact ⟨k + 1, by omega, by go_num, hB, HLW.out.trans ((HB2.out.mono HLW.out.size).trans hb)⟩
        case measure => simp [intOf]; omega
    · obtain rfl : k = l.length := by omega
      go_wp2
      go_ret
      exact ⟨_, rfl, hO, hlw⟩
set_option maxHeartbeats 800000 in
theorem stripe_Cells (a : Arr) (s : Nat) (v : Value) (F : Fp) (w : World) (h : RdA w F v a) (hsh : Shape a.disks) (hs : s < 3) :
    Calls Tryd.prog 43 #[v, .int .i64 s] w fun e w' => ∃ v', e = .returned v' ∧ Bld RdB 22 w' w.heap.size (fun k => w.heap.size ≤ k) v' (cellsA a.disks s) ∧ Below w.heap.size w w' := by
  obtain ⟨dv, iv, rfl, hD, hI⟩ := h
  obtain ⟨b0, o0, c0, rfl, _, _, hc0, hc1⟩ := disks_form hD hsh
  obtain ⟨Ai, ci, rfl, _, _⟩ := hI.shape
  clear hI
  unfold maxLen at hc1
  have hnew := Lib.hid (boxed2_new w (.slice (some ⟨b0, o0, none⟩) 4 c0) (.slice Ai a.ints.length ci) 37)
  have hnb := Lib.hid (below_alloc w (.cells #[.slice (some ⟨b0, o0, none⟩) 4 c0, .slice Ai a.ints.length ci] 37))
  have HS := Lib.hid hsh
  clear hsh
  go_enter Tryd.func43, Tryd.ntmps43
  go_wp2_with fail
  generalize w.alloc (.cells #[.slice (some ⟨b0, o0, none⟩) 4 c0, .slice Ai a.ints.length ci] 37) = w1 at *
  replace hD := okBBB.grow hD hnb.out
  go_loopw [5, 7] (fun u i wr => ∃ k : Nat, k ≤ 4 ∧ i = .int .i64 k ∧ Bld RdB 22 wr w1.heap.size (fun k => w1.heap.size ≤ k) u ((cellsA a.disks s).take k) ∧ Below w1.heap.size w1 wr) (fun _ i _ => 4 - (intOf i).toNat)
  case atStart => exact ⟨0, Nat.zero_le _, rfl, Bld.nil_ _ _ _ _ _, Below.refl _ _⟩
  case round =>
    obtain ⟨k, hk, rfl, hO, hlw⟩ := hrel
    have HLW := Lib.hid hlw
    have hx := hnew.out.keep hlw hnew.out.lt
    by_cases hlt : k < 4
    · obtain ⟨b1, o1, c1, A2, c2, hu1, hd1, hd2, hu2, hR⟩ := disks_cell (okBBB.grow hD hlw) HS.out hlt hs
      have HX := Lib.hid (cellsA_next (D := a.disks) (s := s) (k := k) (by rw [HS.out.1]; exact hlt))
      have HT := Lib.hid (show (((cellsA a.disks s).take k).length + 1) * 24 ≤ 140737488355328 by rw [List.length_take]; omega)
      have HL := Lib.hid (show (cellAt a.disks k s).length ≤ 1000 by obtain ⟨_, _, _, _, h8⟩ := HS.out.cell hlt hs; omega)
      have HO := Lib.hid hO
      obtain ⟨x0, x1, _⟩ := id hx
      unfold maxLen at hd2
      clear hO hlw
      go_wp2_with fail
      refine (clone_B (cellAt a.disks k s) _ _ _ hR HL.out).mono ?_
      rintro e w2 ⟨v2, rfl, hv2, hb2⟩
      have hr2 := (hv2.bytes (G' := fun k => wr.heap.size ≤ k)).toRd ok8 (F := fun k => wr.heap.size ≤ k) (fun _ hk => hk) (fun _ hk => hk)
      obtain ⟨A3, c3, rfl, _, _⟩ := hr2.shape
      have HR2 := Lib.hid hr2
      have HB2 := Lib.hid hb2
      clear hv2 hr2 hb2 hR
      go_wp2_with (at_builtin; refine wpList_append_oneG rfl _ _ 38 rfl okB slBB w1.heap.size (fun k => w1.heap.size ≤ k) _ _ (cellAt a.disks k s) _ rfl (by rfl) (by rfl) (HO.out.grow okB HB2.out) (okB.mono HR2.out fun k hk => ⟨fun e => by have := (HO.out.blk k e.symm).2; omega, Nat.le_trans HLW.out.size hk⟩) (fun _ hk => hk) HT.out (Nat.le_trans HLW.out.size HB2.out.size) ?c1)
      case c1 =>
      intro v' w' hB hb
      rw [HX.out] at hB
      go_wp2
      go_roundw
      case rel => exact ⟨k + 1, by omega, by go_num, hB, HLW.out.trans ((HB2.out.mono HLW.out.size).trans hb)⟩
      case measure => simp [intOf]; omega
    · obtain rfl : k = 4 := by omega
      have hlen : (cellsA a.disks s).length = 4 := by rw [cellsA_len, HS.out.1]
      rw [List.take_of_length_le (by omega)] at hO
      clear hlen
      go_wp2
      go_ret
      exact ⟨_, rfl, (hO.base_ hnb.out.size).mono okB fun _ _ hk => Nat.le_trans hnb.out.size hk, hnb.out.trans (hlw.mono hnb.out.size)⟩
end Go.Proofs.YtdcmbdghnkgghaaDoor

namespace Go.Proofs.YtdcmbdghnkgghaaDoor
set_option linter.unusedVariables false
open Go Go.RowKit M
/-- The list, and where more than one is none. -/
theorem data_lost {l : List Bs} {s : Nat} (h : 1 < (badL l s).length) : dataL l s = ([], 9) := by unfold dataL; rw [if_pos h]
theorem data_had {l : List Bs} {s : Nat} (h : ¬ 1 < (badL l s).length) : dataL l s = (datTo l s l.length, 0) := by unfold dataL; rw [if_neg h]
set_option maxRecDepth 100000 in
set_option maxHeartbeats 1600000 in
theorem stripe_Data (l : List Bs) (s : Nat) (v : Value) (F : Fp) (w : World) (h : RdBB w F v l) (hn : l.length ≤ 200) :
    Calls Tryd.prog 45 #[v, .int .i64 s] w fun e w' => ∃ v', e = .returned (.tuple #[v', .int .i64 (dataL l s).2]) ∧ Bld RdB 22 w' w.heap.size (fun k => w.heap.size ≤ k) v' (dataL l s).1 ∧ Below w.heap.size w w' := by
  obtain ⟨A, c, rfl, _, hm⟩ := h.shape
  unfold maxLen at hm
  by_cases hb : 1 < (badL l s).length
  · rw [data_lost hb]
    go_enter Tryd.func45, Tryd.ntmps45
    go_wp2_with fail
    refine (stripe_Bad l s _ _ _ h hn).mono ?_
    rintro e w1 ⟨v1, rfl, hv1, hb1⟩
    obtain ⟨A1, c1, rfl, _, _⟩ := (hv1.toRd_ okI).shape
    rw [ints_len]
    generalize (badL l s).length = n at *
    clear hv1
    go_wp2
    go_ret2
    exact ⟨_, rfl, Bld.nil_ _ _ _ _ _, hb1⟩
  · rw [data_had hb]
    have HB := Lib.hid hb
    go_enter Tryd.func45, Tryd.ntmps45
    go_wp2_with fail
    refine (stripe_Bad l s _ _ _ h hn).mono ?_
    rintro e w1 ⟨v1, rfl, hv1, hb1⟩
    have hr1 := hv1.toRd_ okI
    obtain ⟨A1, c1, rfl, _, _⟩ := hr1.shape
    have HR1 := Lib.hid hr1
    rw [ints_len]
    obtain ⟨n, hnn⟩ : ∃ n, n = (badL l s).length := ⟨_, rfl⟩
    rw [← hnn] at hb ⊢
    have HN := Lib.hid hnn
    clear hnn hv1 hr1
    replace h := okBB.grow h hb1
    have HS1 := Lib.hid hb1.size
    go_wp2_with fail
    go_loopw [7, 8, 21] (fun u g i wr => ∃ k : Nat, k ≤ l.length ∧ i = .int .i64 k ∧ Pair2 RdB 22 wr w1.heap.size (fun k => w1.heap.size ≤ k) u (rawTo l s k) g (goodTo l s k) ∧ Below w1.heap.size w1 wr) (fun _ _ i _ => l.length - (intOf i).toNat)
    case atStart => exact ⟨0, Nat.zero_le _, rfl, Pair2.nil_ _ _ _ _ _, Below.refl _ _⟩
    case round =>
      obtain ⟨k, hk, rfl, hO, hlw⟩ := hrel
      have HLW := Lib.hid hlw
      by_cases hlt : k < l.length
      · obtain ⟨b, off, u, rfl, _, hu, hR⟩ := (okBB.grow h hlw).at_ hlt
        obtain ⟨A2, c2, rfl, _, _⟩ := hR.shape
        have HT := Lib.hid (show ((rawTo l s k).length + 1) * 24 ≤ 140737488355328 by rw [rawTo_len]; omega)
        have HT2 := Lib.hid (show ((goodTo l s k).length + 1) * 24 ≤ 140737488355328 by have := goodTo_len l s k; omega)
        have HG := Lib.hid (show l.getD k [] = l[k] by simp [List.getD, List.getElem?_eq_getElem hlt])
        have HRaw := Lib.hid (rawTo_next l s k)
        have HO := Lib.hid hO
        clear hO hlw
        go_wp2_with fail
        refine (cell_Read l[k] k s _ _ _ hR).mono ?_
        rintro e w2 ⟨v2, rfl, hv2, hb2⟩
        have HB2 := Lib.hid hb2
        have hr2 := (hv2.bytes (G' := fun k => wr.heap.size ≤ k)).toRd ok8 (F := fun k => wr.heap.size ≤ k) (fun _ hk => hk) (fun _ hk => hk)
        obtain ⟨A3, c3, rfl, _, _⟩ := hr2.shape
        have HZ := Lib.hid (okB.mono hr2 (F' := fun k => some k ≠ u7.ownBlock ∧ some k ≠ u8.ownBlock ∧ w1.heap.size ≤ k) fun k hk => ⟨fun e => by have := (HO.out.1.blk k e.symm).2; omega, fun e => by have := (HO.out.2.1.blk k e.symm).2; omega, Nat.le_trans HLW.out.size hk⟩)
        have HSW := Lib.hid (Nat.le_trans HLW.out.size HB2.out.size)
        clear hv2 hb2 hr2 hR
        cases hok : okC l s k with
        | true =>
          have HX := Lib.hid (goodTo_ok hok)
          have h0 := okC_true.1 hok
          rw [HG.out] at h0
          rw [h0]
          clear hok h0
          go_wp2_with (at_builtin; refine wpList_append_pair rfl _ _ 38 rfl okB slBB w1.heap.size (fun k => w1.heap.size ≤ k) _ _ _ _ (readC l[k] k s).1 _ rfl (by rfl) (by rfl) (HO.out.grow okB HB2.out) HZ.out (fun _ hk => hk) HT.out HSW.out ?c1)
          case c1 =>
          intro v' w' hP hb hz
          have HP := Lib.hid hP
          have HBb := Lib.hid hb
          have HZ2 := Lib.hid (okB.mono hz fun k hk => And.intro hk.2.1 (And.intro hk.1 hk.2.2))
          have HSW2 := Lib.hid (Nat.le_trans HSW.out hb.size)
          clear hP hb hz
          go_wp2_with (at_builtin; refine wpList_append_pair rfl _ _ 38 rfl okB slBB w1.heap.size (fun k => w1.heap.size ≤ k) _ _ _ _ (readC l[k] k s).1 _ rfl (by rfl) (by rfl) HP.out.symm HZ2.out (fun _ hk => hk) HT2.out HSW2.out ?c2)
          case c2 =>
          intro v'' w'' hP hb _
          have HP2 := Lib.hid hP
          clear hP
          go_wp2
          go_roundw
          case rel => exact ⟨k + 1, by omega, by go_num, by rw [HX.out, HRaw.out, HG.out]; exact HP2.out.symm, HLW.out.trans ((HB2.out.mono HLW.out.size).trans (HBb.out.trans hb))⟩
          case measure => simp [intOf]; omega
        | false =>
          have HX := Lib.hid (goodTo_bad hok)
          have h0 := okC_false.1 hok
          rw [HG.out] at h0
          have h0' : ((readC l[k] k s).2 == 0) = false := by simpa using h0
          clear hok h0
          generalize (readC l[k] k s).2 = r at *
          go_wp2_with (at_builtin; refine wpList_append_pair rfl _ _ 38 rfl okB slBB w1.heap.size (fun k => w1.heap.size ≤ k) _ _ _ _ (readC l[k] k s).1 _ rfl (by rfl) (by rfl) (HO.out.grow okB HB2.out) HZ.out (fun _ hk => hk) HT.out HSW.out ?c1)
          case c1 =>
          intro v' w' hP hb hz
          have HP := Lib.hid hP
          have HBb := Lib.hid hb
          clear hP hb hz
          go_wp2
          go_roundw
          case rel => exact ⟨k + 1, by omega, by go_num, by rw [HX.out, HRaw.out, HG.out]; exact HP.out, HLW.out.trans ((HB2.out.mono HLW.out.size).trans HBb.out)⟩
          case measure => simp [intOf]; omega
      · obtain rfl : k = l.length := by omega
        by_cases h1 : n = 1
        · obtain ⟨d, hd⟩ : ∃ d, badL l s = [d] := by
            match hL : badL l s with
            | [] => have := HN.out; rw [hL] at this; simp at this; omega
            | [d] => exact ⟨d, rfl⟩
            | _ :: _ :: _ => have := HN.out; rw [hL] at this; simp at this; omega
          have hdl := (one_bad hd).1
          have HD := Lib.hid (dat_one hd)
          subst h1
          have hrb := HR1.out
          rw [hd] at hrb
          obtain ⟨bb, ob, ub, hAb, _, hub, hRb⟩ := hrb.at_ (k := 0) (by simp [ints])
          subst hAb
          obtain rfl : ub = .int .i64 d := hRb
          have hub1 : w1.cell? ⟨bb, ob, none⟩ = some (.int .i64 d) := hub
          have hbl := World.block_lt_of_cell? _ _ hub1
          have HUB := Lib.hid ((hlw.cell (p := ⟨bb, ob, none⟩) hbl).trans hub1)
          have hP1 := hO.1
          have hP2 := hO.2.1
          have hrl : (rawTo l s l.length).length = l.length := rawTo_len _ _ _
          obtain ⟨g, c7, rfl, hg0, hg1, hgc, _⟩ := hP1.form (by omega)
          rw [hrl] at hP1 ⊢
          have hgood := OwnV.toRd okB (⟨(hP2.base_ (Nat.zero_le _)).mono okB (fun k _ hk => by simpa [Value.ownBlock] using hk.1), fun k hk e => hO.2.2 g rfl (e ▸ hk)⟩ : OwnV RdB 22 wr (fun k => k ≠ g) u8 _)
          have HRaw0 := Lib.hid (hP1.mono okB (G' := fun k => w1.heap.size ≤ k) fun _ _ hk => hk.2)
          have HGood := Lib.hid hgood
          have HRL := Lib.hid hrl
          have HG4 := Lib.hid (goodTo_blocks l s l.length)
          have HBl := Lib.hid (hb1.trans (hlw.mono hb1.size))
          have HLS := Lib.hid hlw.size
          have hgl : g < wr.heap.size := hg1
          clear hP1 hP2 hrl hgood hO hd hrb hub hub1 hlw h
          go_wp2_with fail
          refine region_three (w1.heap.size) [Ck (.slice (some ⟨g, 0, none⟩) l.length c7), Ck (.slice (some ⟨bb, ob, none⟩) 1 c1), Ck (.pointer (some ⟨bb, ob, none⟩)), Ck (.int .i64 d), Ck (u8), Ek 0 (Rm RdB w1.heap.size g (xorAll (goodTo l s l.length))), Ck (.pointer (some ⟨g, d, none⟩)), Tk] (fun m wx => Bld RdB 22 wx w1.heap.size (fun k => w1.heap.size ≤ k) (.slice (some ⟨g, 0, none⟩) l.length c7) (if m = 0 then rawTo l s l.length else (rawTo l s l.length).set d (xorAll (goodTo l s l.length))) ∧ (m = 0 → RdBB wx (fun k => k ≠ g) u8 (goodTo l s l.length) ∧ wx.cell? ⟨bb, ob, none⟩ = some (.int .i64 d))) [7] (by kernel_rfl) (by kernel_rfl) (by kernel_rfl) (by kernel_rfl) (by kernel_rfl) ?_ ?_ (fun m w w' hb h => ⟨h.1.grow okB hb, fun hm => ⟨okBB.grow (h.2 hm).1 hb, (hb.cell (World.block_lt_of_cell? _ _ (h.2 hm).2)).trans (h.2 hm).2⟩⟩) (⟨HRaw0.out, fun _ => ⟨HGood.out, HUB.out⟩⟩) ?_ ?_
          · first | exact Nat.le_refl _ | assumption | omega
          · repeat (first | exact trivial | refine ⟨mCk _, ?_⟩ | refine ⟨mTk, ?_⟩ | refine ⟨mEk _ (by first | exact mC _ | exact mT | exact mR okB _ | exact mR okBB _ | exact mR okBBB _ | exact mRn okB _ _ | exact mRn okBB _ _ | exact mOw _ _ _ _ | exact mRm okB _ _ _ | exact mRa _ _ | exact mRg okROW _ _ | exact mRg okROWS _ _ | exact mRf okDISKS _ _ | exact mRg okCELL _ _ | exact mRg okBB _ _ | exact mRg okB _ _ | exact mRg okIs _ _ | exact mRi _ _ | exact mOx _ _), ?_⟩ | refine ⟨mFk _ (by first | exact mC _ | exact mT | exact mR okB _ | exact mR okBB _ | exact mR okBBB _ | exact mRn okB _ _ | exact mRn okBB _ _ | exact mOw _ _ _ _ | exact mRm okB _ _ _ | exact mRa _ _ | exact mRg okROW _ _ | exact mRg okROWS _ _ | exact mRf okDISKS _ _ | exact mRg okCELL _ _ | exact mRg okBB _ _ | exact mRg okB _ _ | exact mRg okIs _ _ | exact mRi _ _ | exact mOx _ _), ?_⟩ | refine ⟨fun _ => (by first | exact mC _ | exact mT | exact mR okB _ | exact mR okBB _ | exact mR okBBB _ | exact mRn okB _ _ | exact mRn okBB _ _ | exact mOw _ _ _ _ | exact mRm okB _ _ _ | exact mRa _ _ | exact mRg okROW _ _ | exact mRg okROWS _ _ | exact mRf okDISKS _ _ | exact mRg okCELL _ _ | exact mRg okBB _ _ | exact mRg okB _ _ | exact mRg okIs _ _ | exact mRi _ _ | exact mOx _ _), ?_⟩)
          · simp only [StepsL3]
            refine ⟨?_, ?_, ?_, ?_, ?_, ?_, ?_, ?_, trivial⟩
            · refine @id (StepG _ _ _ _ _ _ _ _ _ _ _) ?_
              intro nst ys wx hn hmay hw hS hd
              intro K hK
              simp only [putL, Act.put, List.setIfInBounds_toArray, List.set_cons_zero, List.set_cons_succ, Nat.zero_add, Nat.reduceAdd] at hK ⊢
              rw [if_pos (by rfl)]
              go_simp
              exact hK _ _ (Below.refl _ _) rfl
            · refine @id (StepG _ _ _ _ _ _ _ _ _ _ _) ?_
              intro nst ys wx hn hmay hw hS hd
              intro K hK
              simp only [putL, Act.put, List.setIfInBounds_toArray, List.set_cons_zero, List.set_cons_succ, Nat.zero_add, Nat.reduceAdd] at hK ⊢
              rw [if_pos (by rfl)]
              go_simp
              exact hK _ _ (Below.refl _ _) rfl
            · refine @id (StepG _ _ _ _ _ _ _ _ _ _ _) ?_
              intro nst ys wx hn hmay hw hS hd
              intro K hK
              have e1 : ys 1 = _ := hd 1 (by decide)
              simp only [putL, Act.put, List.setIfInBounds_toArray, List.set_cons_zero, List.set_cons_succ, Nat.zero_add, Nat.reduceAdd, e1] at hK ⊢
              rw [if_pos (by rfl)]
              go_simp
              exact hK _ _ (Below.refl _ _) rfl
            · refine @id (StepG _ _ _ _ _ _ _ _ _ _ _) ?_
              intro nst ys wx hn hmay hw hS hd
              obtain rfl : nst = 0 := may_one hmay hn (by kernel_rfl)
              intro K hK
              have e2 : ys 2 = _ := hd 2 (by decide)
              simp only [putL, Act.put, List.setIfInBounds_toArray, List.set_cons_zero, List.set_cons_succ, Nat.zero_add, Nat.reduceAdd, e2] at hK ⊢
              rw [if_pos (by rfl)]
              have kx := (hS.2 rfl).2
              go_simp
              exact hK _ _ (Below.refl _ _) rfl
            · refine @id (StepG _ _ _ _ _ _ _ _ _ _ _) ?_
              intro nst ys wx hn hmay hw hS hd
              intro K hK
              simp only [putL, Act.put, List.setIfInBounds_toArray, List.set_cons_zero, List.set_cons_succ, Nat.zero_add, Nat.reduceAdd] at hK ⊢
              rw [if_pos (by rfl)]
              go_simp
              exact hK _ _ (Below.refl _ _) rfl
            · refine @id (StepG _ _ _ _ _ _ _ _ _ _ _) ?_
              intro nst ys wx hn hmay hw hS hd
              obtain rfl : nst = 0 := may_one hmay hn (by kernel_rfl)
              intro K hK
              have e4 : ys 4 = _ := hd 4 (by decide)
              simp only [putL, Act.put, List.setIfInBounds_toArray, List.set_cons_zero, List.set_cons_succ, Nat.zero_add, Nat.reduceAdd, e4] at hK ⊢
              rw [if_pos (by rfl)]
              go_simp
              refine (xor_All _ _ _ _ (hS.2 rfl).1 HG4.out).mono ?_
              rintro e w' ⟨v', rfl, hv', hb'⟩
              have hgx := (hS.1.blk g rfl).2
              exact hK _ _ hb' (okB.lt ((hv'.bytes (G' := fun k => wx.heap.size ≤ k)).toRd ok8 (F := fun k => wx.heap.size ≤ k) (fun k hk => hk) (fun k hk => hk)) |> fun h => okB.mono h fun k hk => ⟨by omega, Nat.le_trans (Nat.le_trans HLS.out hw.size) hk.1, hk.2⟩)
            · refine @id (StepG _ _ _ _ _ _ _ _ _ _ _) ?_
              intro nst ys wx hn hmay hw hS hd
              intro K hK
              have e0 : ys 0 = _ := hd 0 (by decide)
              have e3 : ys 3 = _ := hd 3 (by decide)
              simp only [putL, Act.put, List.setIfInBounds_toArray, List.set_cons_zero, List.set_cons_succ, Nat.zero_add, Nat.reduceAdd, e0, e3] at hK ⊢
              rw [if_pos (by rfl)]
              have q1 : (d : Int) < l.length := by omega
              have q0 : (0 : Int) ≤ d := by omega
              have q2 : (d : Int).toNat = d := by omega
              go_simp
              exact hK _ _ (Below.refl _ _) rfl
            · refine @id (StepS _ _ _ _ _ _ _ _ _ _ _) ?_
              intro ys wx hw hS hd K hK
              have k5 := hd 5 (by decide)
              change (Rm RdB w1.heap.size g (xorAll (goodTo l s l.length))) wx (ys 5) at k5
              have e6 : ys 6 = _ := hd 6 (by decide)
              simp only [putL, Act.put, List.setIfInBounds_toArray, List.set_cons_zero, List.set_cons_succ, Nat.zero_add, Nat.reduceAdd, e6] at hK ⊢
              rw [if_pos (by rfl)]
              have hS0 : Bld RdB 22 wx w1.heap.size (fun k => w1.heap.size ≤ k) (.slice (some ⟨g, 0, none⟩) l.length c7) (rawTo l s l.length) := hS.1
              have hdr : d < (rawTo l s l.length).length := by rw [HRL.out]; exact hdl
              obtain ⟨u, hu, hfz, _⟩ := hS0.at_ hdr
              have hset := hS0.set_ okB hdr (u := ys 5) (x := xorAll (goodTo l s l.length)) (okB.mono k5 fun k hk => ⟨hk.1, hk.2.1⟩)
              have hbs := (Below.refl w1.heap.size wx).setCell (p := ⟨g, d, none⟩) hg0 (ys 5)
              have h1c := okB.one k5
              generalize ys 5 = y5 at *
              obtain ⟨A5, c5, rfl, _, _⟩ := RdL.shape k5
              clear k5 h1c
              go_simp
              exact hK undef _ hbs ⟨hset, fun h => by cases h⟩ trivial ⟨fun _ h => h, fun _ h => h, fun _ h => h, fun _ h => h, fun _ h => h, fun _ _ => trivial, fun _ h => h, fun _ h => h, trivial⟩
          · intro ys w' hl' hS' hV
            clear hV
            simp only [putL, Act.put, List.setIfInBounds_toArray, List.set_cons_zero, List.set_cons_succ, Nat.zero_add, Nat.reduceAdd]
            have hfin : Bld RdB 22 w' w1.heap.size (fun k => w1.heap.size ≤ k) (.slice (some ⟨g, 0, none⟩) l.length c7) ((rawTo l s l.length).set d (xorAll (goodTo l s l.length))) := hS'.1
            rw [HD.out] at hfin
            have HF := Lib.hid ((hfin.base_ (b := w.heap.size) HS1.out).mono okB (G' := fun k => w.heap.size ≤ k) fun _ _ hk => Nat.le_trans HS1.out hk)
            have HBe := Lib.hid (HBl.out.trans (hl'.mono HS1.out))
            clear hfin hS' hl'
            go_wp2
            go_ret2
            exact ⟨_, rfl, HF.out, HBe.out⟩
        · have h0 : badL l s = [] := by
            match hL : badL l s with
            | [] => rfl
            | [d] => have := HN.out; rw [hL] at this; simp at this; omega
            | _ :: _ :: _ => exfalso; have := HB.out; rw [hL] at this; simp at this
          have h1' : ((n : Int) == 1) = false := by simp; omega
          have HD := Lib.hid (dat_none h0)
          have HP := Lib.hid (hO.1.mono okB (G' := fun k => w.heap.size ≤ k) fun _ _ hk => Nat.le_trans HS1.out hk.2)
          have HBl := Lib.hid (hb1.trans (hlw.mono hb1.size))
          clear h0 h1 hO hlw h
          go_wp2
          go_ret2
          exact ⟨_, rfl, by rw [← HD.out]; exact HP.out.base_ HS1.out, HBl.out⟩
end Go.Proofs.YtdcmbdghnkgghaaDoor

namespace Go.Proofs.YtdcmbdghnkgghaaDoor
set_option linter.unusedVariables false
open Go Go.RowKit M
end Go.Proofs.YtdcmbdghnkgghaaDoor

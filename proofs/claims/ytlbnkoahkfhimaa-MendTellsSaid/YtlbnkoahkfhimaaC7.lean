/- Chapter 7: what stripe.Cells, Bad, Make and the reference's Cells, Bad, Make compute. -/
import Derived.Test.YtlbnkoahkfhimaaC2
import Derived.Test.YtlbnkoahkfhimaaCL
import Derived.Test.YtlbnkoahkfhimaaMem4
namespace Go.Proofs.Ytlbnkoahkfhimaa
set_option linter.unusedVariables false
open Go Go.RowKit M
theorem slI : M.SlTy Try.prog 48 3 8 := sl_of Try.underlying48 (z := .int .i64 0) (by kernel_rfl) rfl (by decide)
theorem slBBB : M.SlTy Try.prog 38 22 24 := sl_of Try.underlying38 (z := .slice none 0 0) (by kernel_rfl) rfl (by decide)
/-- Disks as numbers. -/
def ints (l : List Nat) : List Int := l.map fun n : Nat => (n : Int)
theorem ints_snoc (l : List Nat) (k : Nat) : ints l ++ [(k : Int)] = ints (l ++ [k]) := by simp [ints]
theorem ints_len (l : List Nat) : (ints l).length = l.length := by simp [ints]
set_option maxHeartbeats 800000 in
theorem stripe_Make (data : List Bs) (s : Nat) (v : Value) (F : Fp) (w : World) (h : RdBB w F v data) (hs : s < 256) (hn : data.length ≤ 200) (h4 : Blocks4 data) :
    Calls Try.prog 33 #[v, .int .i64 s] w fun e w' => ∃ v', e = .returned v' ∧ OwnL RdB 23 w' (fun k => w.heap.size ≤ k) v' (makeL data s) ∧ Below w.heap.size w w' := by
  obtain ⟨A, c, rfl, _, hm⟩ := h.shape
  unfold maxLen at hm
  have H4 := Lib.hid h4
  clear h4
  go_enter Try.func33, Try.ntmps33
  go_wp2_with fail
  go_loopw [5, 10] (fun u i wr => ∃ k : Nat, k ≤ data.length ∧ i = .int .i64 k ∧ OwnL RdB 23 wr (fun k => w.heap.size ≤ k) u (makeTo data s k) ∧ Below w.heap.size w wr) (fun _ i _ => data.length - (intOf i).toNat)
  case atStart => exact ⟨0, Nat.zero_le _, rfl, OwnL.nil_ _ _ _ _, Below.refl _ _⟩
  case round =>
    obtain ⟨k, hk, rfl, hO, hlw⟩ := hrel
    have HLW := Lib.hid hlw
    by_cases hlt : k < data.length
    · obtain ⟨b, off, u, rfl, _, hu, hR⟩ := (okBB.grow h hlw).at_ hlt
      obtain ⟨A2, c2, rfl, _, _⟩ := hR.shape
      have HX := Lib.hid (show makeTo data s k ++ [cellB k s data[k]] = makeTo data s (k + 1) by rw [makeTo_next]; simp [List.getD, List.getElem?_eq_getElem hlt])
      have HT := Lib.hid (show ((makeTo data s k).length + 1) * 24 ≤ 140737488355328 by rw [makeTo_len]; omega)
      have HL := Lib.hid (H4.out _ (List.getElem_mem hlt))
      have HO := Lib.hid hO
      clear hO hlw
      go_wp2_with fail
      refine (cell_Bytes k s data[k] _ _ _ hR (by omega) hs (by rw [HL.out]; decide)).mono ?_
      rintro e w2 ⟨v2, rfl, hv2, hb2⟩
      have hr2 := (hv2.bytes (G' := fun k => wr.heap.size ≤ k)).toRd ok8 (F := fun k => wr.heap.size ≤ k) (fun _ hk => hk) (fun _ hk => hk)
      obtain ⟨A3, c3, rfl, _, _⟩ := hr2.shape
      have HR2 := Lib.hid hr2
      have HB2 := Lib.hid hb2
      clear hv2 hr2 hb2
      go_wp2_with (at_builtin; refine wpList_append_apart rfl _ _ 22 rfl okB slBB w.heap.size _ _ (cellB k s data[k]) _ rfl (by rfl) (by rfl) HO.out HB2.out HR2.out HT.out HLW.out.size ?c1)
      case c1 =>
      intro v' w' hB hb
      rw [HX.out] at hB
      go_wp2
      go_roundw
      case rel => exact ⟨k + 1, by omega, by go_num, hB, HLW.out.trans ((HB2.out.mono HLW.out.size).trans hb)⟩
      case measure => simp [intOf]; omega
    · obtain rfl : k = data.length := by omega
      go_wp2
      go_ret
      exact ⟨_, rfl, hO, hlw⟩
set_option maxHeartbeats 800000 in
theorem ref_Make (data : List Bs) (s : Nat) (v : Value) (F : Fp) (w : World) (h : RdBB w F v data) (hs : s < 256) (hn : data.length ≤ 200) (h4 : Blocks4 data) :
    Calls Try.prog 34 #[v, .int .i64 s] w fun e w' => ∃ v', e = .returned v' ∧ OwnL RdB 23 w' (fun k => w.heap.size ≤ k) v' (makeL data s) ∧ Below w.heap.size w w' := by
  obtain ⟨A, c, rfl, _, hm⟩ := h.shape
  unfold maxLen at hm
  have H4 := Lib.hid h4
  clear h4
  go_enter Try.func34, Try.ntmps34
  go_wp2_with fail
  go_loopw [5, 9] (fun u i wr => ∃ k : Nat, k ≤ data.length ∧ i = .int .i64 k ∧ OwnL RdB 23 wr (fun k => w.heap.size ≤ k) u (makeTo data s k) ∧ Below w.heap.size w wr) (fun _ i _ => data.length - (intOf i).toNat)
  case atStart => exact ⟨0, Nat.zero_le _, rfl, OwnL.nil_ _ _ _ _, Below.refl _ _⟩
  case round =>
    obtain ⟨k, hk, rfl, hO, hlw⟩ := hrel
    have HLW := Lib.hid hlw
    by_cases hlt : k < data.length
    · obtain ⟨b, off, u, rfl, _, hu, hR⟩ := (okBB.grow h hlw).at_ hlt
      obtain ⟨A2, c2, rfl, _, _⟩ := hR.shape
      have HX := Lib.hid (show makeTo data s k ++ [cellB k s data[k]] = makeTo data s (k + 1) by rw [makeTo_next]; simp [List.getD, List.getElem?_eq_getElem hlt])
      have HT := Lib.hid (show ((makeTo data s k).length + 1) * 24 ≤ 140737488355328 by rw [makeTo_len]; omega)
      have HL := Lib.hid (H4.out _ (List.getElem_mem hlt))
      have HO := Lib.hid hO
      clear hO hlw
      go_wp2_with fail
      refine (ref_CellBytes k s data[k] _ _ _ hR (by omega) hs (by rw [HL.out]; decide)).mono ?_
      rintro e w2 ⟨v2, rfl, hv2, hb2⟩
      have hr2 := (hv2.bytes (G' := fun k => wr.heap.size ≤ k)).toRd ok8 (F := fun k => wr.heap.size ≤ k) (fun _ hk => hk) (fun _ hk => hk)
      obtain ⟨A3, c3, rfl, _, _⟩ := hr2.shape
      have HR2 := Lib.hid hr2
      have HB2 := Lib.hid hb2
      clear hv2 hr2 hb2
      go_wp2_with (at_builtin; refine wpList_append_apart rfl _ _ 22 rfl okB slBB w.heap.size _ _ (cellB k s data[k]) _ rfl (by rfl) (by rfl) HO.out HB2.out HR2.out HT.out HLW.out.size ?c1)
      case c1 =>
      intro v' w' hB hb
      rw [HX.out] at hB
      go_wp2
      go_roundw
      case rel => exact ⟨k + 1, by omega, by go_num, hB, HLW.out.trans ((HB2.out.mono HLW.out.size).trans hb)⟩
      case measure => simp [intOf]; omega
    · obtain rfl : k = data.length := by omega
      go_wp2
      go_ret
      exact ⟨_, rfl, hO, hlw⟩
set_option maxHeartbeats 800000 in
theorem stripe_Bad (l : List Bs) (s : Nat) (v : Value) (F : Fp) (w : World) (h : RdBB w F v l) (hn : l.length ≤ 200) :
    Calls Try.prog 31 #[v, .int .i64 s] w fun e w' => ∃ v', e = .returned v' ∧ Bld RI 3 w' w.heap.size (fun _ => True) v' (ints (badL l s)) ∧ Below w.heap.size w w' := by
  obtain ⟨A, c, rfl, _, hm⟩ := h.shape
  unfold maxLen at hm
  go_enter Try.func31, Try.ntmps31
  go_wp2_with fail
  go_loopw [5, 12] (fun u i wr => ∃ k : Nat, k ≤ l.length ∧ i = .int .i64 k ∧ Bld RI 3 wr w.heap.size (fun _ => True) u (ints (badTo l s k)) ∧ Below w.heap.size w wr) (fun _ i _ => l.length - (intOf i).toNat)
  case atStart => exact ⟨0, Nat.zero_le _, rfl, Bld.nil_ _ _ _ _ _, Below.refl _ _⟩
  case round =>
    obtain ⟨k, hk, rfl, hO, hlw⟩ := hrel
    have HLW := Lib.hid hlw
    by_cases hlt : k < l.length
    · obtain ⟨b, off, u, rfl, _, hu, hR⟩ := (okBB.grow h hlw).at_ hlt
      obtain ⟨A2, c2, rfl, _, _⟩ := hR.shape
      have HT := Lib.hid (show ((ints (badTo l s k)).length + 1) * 8 ≤ 140737488355328 by rw [ints_len]; have := badTo_len l s k; omega)
      have HG := Lib.hid (show l.getD k [] = l[k] by simp [List.getD, List.getElem?_eq_getElem hlt])
      have HO := Lib.hid hO
      clear hO hlw
      go_wp2_with fail
      refine (cell_Read l[k] k s _ _ _ hR).mono ?_
      rintro e w2 ⟨v2, rfl, hv2, hb2⟩
      have HB2 := Lib.hid hb2
      clear hv2 hb2
      cases hok : okC l s k with
      | true =>
        have HX := Lib.hid (badTo_ok hok)
        have h0 := okC_true.1 hok
        rw [HG.out] at h0
        rw [h0]
        clear hok h0
        go_wp2
        go_roundw
        case rel => exact ⟨k + 1, by omega, by go_num, by rw [HX.out]; exact HO.out.grow okI HB2.out, HLW.out.trans (HB2.out.mono HLW.out.size)⟩
        case measure => simp [intOf]; omega
      | false =>
        have HX := Lib.hid (badTo_bad hok)
        have h0 := okC_false.1 hok
        rw [HG.out] at h0
        have h0' : ((readC l[k] k s).2 != 0) = true := by simpa using h0
        clear hok h0
        generalize (readC l[k] k s).2 = r at *
        go_wp2_with (at_builtin; refine wpList_append_one rfl _ _ 48 rfl okI slI w.heap.size _ _ (k : Int) _ rfl (by rfl) (by rfl) (HO.out.grow okI HB2.out) rfl HT.out (Nat.le_trans HLW.out.size HB2.out.size) ?c1)
        case c1 =>
        intro v' w' hB hb
        rw [ints_snoc, ← HX.out] at hB
        go_wp2
        go_roundw
        case rel => exact ⟨k + 1, by omega, by go_num, hB, HLW.out.trans ((HB2.out.mono HLW.out.size).trans hb)⟩
        case measure => simp [intOf]; omega
    · obtain rfl : k = l.length := by omega
      go_wp2
      go_ret
      exact ⟨_, rfl, hO, hlw⟩
set_option maxHeartbeats 800000 in
theorem ref_Bad (l : List Bs) (s : Nat) (v : Value) (F : Fp) (w : World) (h : RdBB w F v l) (hn : l.length ≤ 200) :
    Calls Try.prog 32 #[v, .int .i64 s] w fun e w' => ∃ v', e = .returned v' ∧ Bld RI 3 w' w.heap.size (fun _ => True) v' (ints (badL l s)) ∧ Below w.heap.size w w' := by
  obtain ⟨A, c, rfl, _, hm⟩ := h.shape
  unfold maxLen at hm
  go_enter Try.func32, Try.ntmps32
  go_wp2_with fail
  go_loopw [5, 11] (fun u i wr => ∃ k : Nat, k ≤ l.length ∧ i = .int .i64 k ∧ Bld RI 3 wr w.heap.size (fun _ => True) u (ints (badTo l s k)) ∧ Below w.heap.size w wr) (fun _ i _ => l.length - (intOf i).toNat)
  case atStart => exact ⟨0, Nat.zero_le _, rfl, Bld.nil_ _ _ _ _ _, Below.refl _ _⟩
  case round =>
    obtain ⟨k, hk, rfl, hO, hlw⟩ := hrel
    have HLW := Lib.hid hlw
    by_cases hlt : k < l.length
    · obtain ⟨b, off, u, rfl, _, hu, hR⟩ := (okBB.grow h hlw).at_ hlt
      obtain ⟨A2, c2, rfl, _, _⟩ := hR.shape
      have HT := Lib.hid (show ((ints (badTo l s k)).length + 1) * 8 ≤ 140737488355328 by rw [ints_len]; have := badTo_len l s k; omega)
      have HG := Lib.hid (show l.getD k [] = l[k] by simp [List.getD, List.getElem?_eq_getElem hlt])
      have HO := Lib.hid hO
      clear hO hlw
      go_wp2_with fail
      refine (ref_CellRead l[k] k s _ _ _ hR).mono ?_
      rintro e w2 ⟨v2, rfl, hv2, hb2⟩
      have HB2 := Lib.hid hb2
      clear hv2 hb2
      cases hok : okC l s k with
      | true =>
        have HX := Lib.hid (badTo_ok hok)
        have h0 := okC_true.1 hok
        rw [HG.out] at h0
        rw [h0]
        clear hok h0
        go_wp2
        go_roundw
        case rel => exact ⟨k + 1, by omega, by go_num, by rw [HX.out]; exact HO.out.grow okI HB2.out, HLW.out.trans (HB2.out.mono HLW.out.size)⟩
        case measure => simp [intOf]; omega
      | false =>
        have HX := Lib.hid (badTo_bad hok)
        have h0 := okC_false.1 hok
        rw [HG.out] at h0
        have h0' : ((readC l[k] k s).2 != 0) = true := by simpa using h0
        clear hok h0
        generalize (readC l[k] k s).2 = r at *
        go_wp2_with (at_builtin; refine wpList_append_one rfl _ _ 48 rfl okI slI w.heap.size _ _ (k : Int) _ rfl (by rfl) (by rfl) (HO.out.grow okI HB2.out) rfl HT.out (Nat.le_trans HLW.out.size HB2.out.size) ?c1)
        case c1 =>
        intro v' w' hB hb
        rw [ints_snoc, ← HX.out] at hB
        go_wp2
        go_roundw
        case rel => exact ⟨k + 1, by omega, by go_num, hB, HLW.out.trans ((HB2.out.mono HLW.out.size).trans hb)⟩
        case measure => simp [intOf]; omega
    · obtain rfl : k = l.length := by omega
      go_wp2
      go_ret
      exact ⟨_, rfl, hO, hlw⟩
set_option maxHeartbeats 800000 in
theorem stripe_Cells (a : Arr) (s : Nat) (v : Value) (F : Fp) (w : World) (h : RdA w F v a) (hsh : Shape a.disks) (hs : s < 3) :
    Calls Try.prog 27 #[v, .int .i64 s] w fun e w' => ∃ v', e = .returned v' ∧ Bld RdB 23 w' w.heap.size (fun k => w.heap.size ≤ k) v' (cellsA a.disks s) ∧ Below w.heap.size w w' := by
  obtain ⟨dv, iv, rfl, hD, hI⟩ := h
  obtain ⟨b0, o0, c0, rfl, _, _, hc0, hc1⟩ := disks_form hD hsh
  obtain ⟨Ai, ci, rfl, _, _⟩ := hI.shape
  clear hI
  unfold maxLen at hc1
  have hnew := Lib.hid (boxed2_new w (.slice (some ⟨b0, o0, none⟩) 4 c0) (.slice Ai a.ints.length ci) 41)
  have hnb := Lib.hid (below_alloc w (.cells #[.slice (some ⟨b0, o0, none⟩) 4 c0, .slice Ai a.ints.length ci] 41))
  have HS := Lib.hid hsh
  clear hsh
  go_enter Try.func27, Try.ntmps27
  go_wp2_with fail
  generalize w.alloc (.cells #[.slice (some ⟨b0, o0, none⟩) 4 c0, .slice Ai a.ints.length ci] 41) = w1 at *
  replace hD := okBBB.grow hD hnb.out
  go_loopw [5, 7] (fun u i wr => ∃ k : Nat, k ≤ 4 ∧ i = .int .i64 k ∧ Bld RdB 23 wr w1.heap.size (fun k => w1.heap.size ≤ k) u ((cellsA a.disks s).take k) ∧ Below w1.heap.size w1 wr) (fun _ i _ => 4 - (intOf i).toNat)
  case atStart => exact ⟨0, Nat.zero_le _, rfl, Bld.nil_ _ _ _ _ _, Below.refl _ _⟩
  case round =>
    obtain ⟨k, hk, rfl, hO, hlw⟩ := hrel
    have HLW := Lib.hid hlw
    have hx := hnew.out.keep hlw hnew.out.lt
    by_cases hlt : k < 4
    · obtain ⟨b1, o1, c1, A2, c2, hu1, hd1, hd2, hu2, hR⟩ := disks_cell (okBBB.grow hD hlw) HS.out hlt hs
      have HX := Lib.hid (cellsA_next (D := a.disks) (s := s) (k := k) (by rw [HS.out.1]; exact hlt))
      have HT := Lib.hid (show (((cellsA a.disks s).take k).length + 1) * 24 ≤ 140737488355328 by rw [List.length_take]; omega)
      have HL := Lib.hid (show (cellAt a.disks k s).length ≤ 1000 by obtain ⟨_, _, _, _, h8⟩ := HS.out.cell hlt hs; omega)
      have HO := Lib.hid hO
      obtain ⟨x0, x1, _⟩ := id hx
      unfold maxLen at hd2
      clear hO hlw
      go_wp2_with fail
      refine (clone_B (cellAt a.disks k s) _ _ _ hR HL.out).mono ?_
      rintro e w2 ⟨v2, rfl, hv2, hb2⟩
      have hr2 := (hv2.bytes (G' := fun k => wr.heap.size ≤ k)).toRd ok8 (F := fun k => wr.heap.size ≤ k) (fun _ hk => hk) (fun _ hk => hk)
      obtain ⟨A3, c3, rfl, _, _⟩ := hr2.shape
      have HR2 := Lib.hid hr2
      have HB2 := Lib.hid hb2
      clear hv2 hr2 hb2 hR
      go_wp2_with (at_builtin; refine wpList_append_oneG rfl _ _ 22 rfl okB slBB w1.heap.size (fun k => w1.heap.size ≤ k) _ _ (cellAt a.disks k s) _ rfl (by rfl) (by rfl) (HO.out.grow okB HB2.out) (okB.mono HR2.out fun k hk => ⟨fun e => by have := (HO.out.blk k e.symm).2; omega, Nat.le_trans HLW.out.size hk⟩) (fun _ hk => hk) HT.out (Nat.le_trans HLW.out.size HB2.out.size) ?c1)
      case c1 =>
      intro v' w' hB hb
      rw [HX.out] at hB
      go_wp2
      go_roundw
      case rel => exact ⟨k + 1, by omega, by go_num, hB, HLW.out.trans ((HB2.out.mono HLW.out.size).trans hb)⟩
      case measure => simp [intOf]; omega
    · obtain rfl : k = 4 := by omega
      have hlen : (cellsA a.disks s).length = 4 := by rw [cellsA_len, HS.out.1]
      rw [List.take_of_length_le (by omega)] at hO
      clear hlen
      go_wp2
      go_ret
      exact ⟨_, rfl, (hO.base_ hnb.out.size).mono okB fun _ _ hk => Nat.le_trans hnb.out.size hk, hnb.out.trans (hlw.mono hnb.out.size)⟩
set_option maxHeartbeats 800000 in
theorem ref_Cells (a : Arr) (s : Nat) (v : Value) (F : Fp) (w : World) (h : RdA w F v a) (hsh : Shape a.disks) (hs : s < 3) :
    Calls Try.prog 28 #[v, .int .i64 s] w fun e w' => ∃ v', e = .returned v' ∧ Bld RdB 23 w' w.heap.size (fun k => F k ∨ w.heap.size ≤ k) v' (cellsA a.disks s) ∧ Below w.heap.size w w' := by
  obtain ⟨dv, iv, rfl, hD, hI⟩ := h
  obtain ⟨b0, o0, c0, rfl, _, _, hc0, hc1⟩ := disks_form hD hsh
  obtain ⟨Ai, ci, rfl, _, _⟩ := hI.shape
  clear hI
  unfold maxLen at hc1
  have hnew := Lib.hid (boxed2_new w (.slice (some ⟨b0, o0, none⟩) 4 c0) (.slice Ai a.ints.length ci) 41)
  have hnb := Lib.hid (below_alloc w (.cells #[.slice (some ⟨b0, o0, none⟩) 4 c0, .slice Ai a.ints.length ci] 41))
  have HS := Lib.hid hsh
  clear hsh
  obtain ⟨x0, x1, _⟩ := id hnew.out
  go_enter Try.func28, Try.ntmps28
  go_wp2_with fail
  generalize w.alloc (.cells #[.slice (some ⟨b0, o0, none⟩) 4 c0, .slice Ai a.ints.length ci] 41) = w1 at *
  replace hD := okBBB.lt (okBBB.grow hD hnb.out)
  clear x0 x1
  go_loopw [5, 11] (fun u i wr => ∃ k : Nat, k ≤ 4 ∧ i = .int .i64 k ∧ Bld RdB 23 wr w1.heap.size (fun k => F k ∨ w1.heap.size ≤ k) u ((cellsA a.disks s).take k) ∧ Below w1.heap.size w1 wr) (fun _ i _ => 4 - (intOf i).toNat)
  case atStart => exact ⟨0, Nat.zero_le _, rfl, Bld.nil_ _ _ _ _ _, Below.refl _ _⟩
  case round =>
    obtain ⟨k, hk, rfl, hO, hlw⟩ := hrel
    have HLW := Lib.hid hlw
    by_cases hlt : k < 4
    · obtain ⟨b1, o1, c1, A2, c2, hu1, hd1, hd2, hu2, hR⟩ := disks_cell (okBBB.grow hD hlw) HS.out hlt hs
      have HX := Lib.hid (cellsA_next (D := a.disks) (s := s) (k := k) (by rw [HS.out.1]; exact hlt))
      have HT := Lib.hid (show (((cellsA a.disks s).take k).length + 1) * 24 ≤ 140737488355328 by rw [List.length_take]; omega)
      have HO := Lib.hid hO
      have HR := Lib.hid (okB.mono hR (F' := fun k => some k ≠ u5.ownBlock ∧ (F k ∨ w1.heap.size ≤ k)) fun k hk => ⟨fun e => by have := (hO.blk k e.symm).1; have := hk.2; omega, .inl hk.1⟩)
      unfold maxLen at hd2
      clear hO hlw hR
      go_wp2_with (at_builtin; refine wpList_append_oneG rfl _ _ 22 rfl okB slBB w1.heap.size (fun k => F k ∨ w1.heap.size ≤ k) _ _ (cellAt a.disks k s) _ rfl (by rfl) (by rfl) HO.out HR.out (fun _ hk => .inr hk) HT.out HLW.out.size ?c1)
      case c1 =>
      intro v' w' hB hb
      rw [HX.out] at hB
      go_wp2
      go_roundw
      case rel => exact ⟨k + 1, by omega, by go_num, hB, HLW.out.trans hb⟩
      case measure => simp [intOf]; omega
    · obtain rfl : k = 4 := by omega
      have hlen : (cellsA a.disks s).length = 4 := by rw [cellsA_len, HS.out.1]
      rw [List.take_of_length_le (by omega)] at hO
      clear hlen
      go_wp2
      go_ret
      exact ⟨_, rfl, (hO.base_ hnb.out.size).mono okB fun _ _ hk => hk.imp id fun h => Nat.le_trans hnb.out.size h, hnb.out.trans (hlw.mono hnb.out.size)⟩
end Go.Proofs.Ytlbnkoahkfhimaa

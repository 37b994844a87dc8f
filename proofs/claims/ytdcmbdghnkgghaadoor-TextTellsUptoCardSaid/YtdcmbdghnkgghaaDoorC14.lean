/- Chapter 8: what array.New computes. -/
import Derived.Test.YtdcmbdghnkgghaaDoorZe
import Derived.Test.YtdcmbdghnkgghaaDoorZc
namespace Go.Proofs.YtdcmbdghnkgghaaDoor
set_option linter.unusedVariables false
open Go Go.RowKit M
set_option maxRecDepth 100000 in
set_option maxHeartbeats 1600000 in
theorem array_New (w : World) : Calls Tryd.prog 58 #[] w fun e w' => ∃ v', e = .returned v' ∧ RdA w' (fun k => w.heap.size ≤ k) v' newA ∧ Below w.heap.size w w' := by
  obtain ⟨hR, hA, hB, hsz⟩ := two_boxes w (.slice none 0 0) (.slice none 0 0) 37
  have HSZ := Lib.hid hsz
  clear hsz
  go_enter Tryd.func58, Tryd.ntmps58
  go_wp2_with fail
  generalize (w.alloc (.cells #[.slice none 0 0, .slice none 0 0] 37)).alloc (.cells #[.slice none 0 0, .slice none 0 0] 37) = w1 at *
  go_loopw [5] (fun i wr => ∃ k : Nat, k ≤ 4 ∧ i = .int .i64 k ∧ (∃ dv, BoxAt wr (w.heap.size + 1) 37 [dv, .slice none 0 0] ∧ Bld RdBB 38 wr (w.heap.size + 2) (fun k => w.heap.size + 2 ≤ k) dv (disksN k)) ∧ BoxAt wr w.heap.size 37 [.slice none 0 0, .slice none 0 0] ∧ Below w.heap.size w wr ∧ w.heap.size + 2 ≤ wr.heap.size) (fun i _ => 4 - (intOf i).toNat)
  case atStart => exact ⟨0, Nat.zero_le _, rfl, ⟨_, hA, Bld.nil_ _ _ _ _ _⟩, hR, hB, by rw [HSZ.out]; exact Nat.le_refl _⟩
  case round =>
    obtain ⟨k, hk, rfl, ⟨dv, hA1, hD1⟩, hR1, hB1, hs1⟩ := hrel
    rename World => wo
    by_cases hlt : k < 4
    · have hbk : decide ((k : Int) < 4) = true := by simp; omega
      have H1 := Lib.hid (And.intro hA1 (And.intro hD1 (And.intro hR1 (And.intro hB1 hs1))))
      clear hA1 hD1 hR1 hB1 hs1
      go_wp2_with fail
      go_loopw [3, 8] (fun u i wi => ∃ j : Nat, j ≤ 3 ∧ i = .int .i64 j ∧ Bld RdB 22 wi wo.heap.size (fun k => wo.heap.size ≤ k) u (rowN k j) ∧ Below wo.heap.size wo wi) (fun _ i _ => 3 - (intOf i).toNat)
      case atStart => exact ⟨0, Nat.zero_le _, rfl, Bld.nil_ _ _ _ _ _, Below.refl _ _⟩
      case round =>
        obtain ⟨j, hj, rfl, hO, hlw⟩ := hrel
        have HLW := Lib.hid hlw
        by_cases hjt : j < 3
        · have HT := Lib.hid (show ((rowN k j).length + 1) * 24 ≤ 140737488355328 by rw [rowN_len]; omega)
          have HX := Lib.hid (rowN_next k j)
          have HO := Lib.hid hO
          have hz := rd_const wr zero4 5 (0, 0) (by decide)
          have hbz := below_alloc wr (.cells #[.int .u8 0, .int .u8 0, .int .u8 0, .int .u8 0] 5)
          have HZ := Lib.hid (And.intro hz hbz)
          have hmk := mk4 wr
          clear hO hlw hz hbz
          go_wp2_with fail
          refine (cell_Bytes k j zero4 _ _ _ HZ.out.1 (by omega) (by omega) (by decide)).mono ?_
          rintro e w2 ⟨v2, rfl, hv2, hb2⟩
          have hbz := HZ.out.2
          have hb2' := hbz.trans (hb2.mono hbz.size)
          have hr2 := (hv2.bytes (G' := fun k => wr.heap.size ≤ k)).toRd ok8 (F := fun k => wr.heap.size ≤ k) (fun _ hk => Nat.le_trans hbz.size hk) (fun _ hk => hk)
          obtain ⟨A3, c3, rfl, _, _⟩ := hr2.shape
          have HR2 := Lib.hid hr2
          have HB2 := Lib.hid hb2'
          clear hv2 hr2 hb2 hbz hb2'
          go_wp2_with (at_builtin; refine wpList_append_oneG rfl _ _ 38 rfl okB slBB wo.heap.size (fun k => wo.heap.size ≤ k) _ _ (cellB k j zero4) _ rfl (by rfl) (by rfl) (HO.out.grow okB HB2.out) (okB.mono HR2.out fun k hk => ⟨fun e => by have := (HO.out.blk k e.symm).2; omega, Nat.le_trans HLW.out.size hk⟩) (fun _ hk => hk) HT.out (Nat.le_trans HLW.out.size HB2.out.size) ?c1)
          case c1 =>
          intro v' w' hB' hb
          rw [HX.out] at hB'
          go_wp2
          go_roundw
          case rel => exact ⟨j + 1, by omega, by go_num, hB', HLW.out.trans ((HB2.out.mono HLW.out.size).trans hb)⟩
          case measure => simp [intOf]; omega
        · obtain rfl : j = 3 := by omega
          obtain ⟨hA1, hD1, hR1, hB1, hs1⟩ := H1.out
          have hA2 := hA1.grow hlw
          obtain ⟨x0, x1, x2, x3⟩ := hA2.two
          have hrow := hO.toRd okB (F := fun k => wo.heap.size ≤ k) (fun k hk => hk) (fun _ hk => hk)
          obtain ⟨A3, c3, rfl, _, _⟩ := hrow.shape
          have HRow := Lib.hid hrow
          have HD := Lib.hid (hD1.grow okBB hlw)
          have HT := Lib.hid (show ((disksN k).length + 1) * 24 ≤ 140737488355328 by rw [disksN_len]; omega)
          have HX := Lib.hid (disksN_next k)
          have hsw := hlw.size
          have HDB := Lib.hid hD1.blk
          have HA2 := Lib.hid hA2
          have HB2 := Lib.hid (hB1.trans (hlw.mono hB1.size))
          have HR2 := Lib.hid (hR1.grow hlw)
          clear hA1 hD1 hR1 hB1 hA2 hrow hO hlw
          go_wp2_with (at_builtin; refine wpList_append_oneG rfl _ _ 34 rfl okBB slBBB (w.heap.size + 2) (fun k => w.heap.size + 2 ≤ k) _ _ (rowN k 3) _ rfl (by rfl) (by rfl) HD.out (okBB.mono HRow.out fun k hk => ⟨fun e => by have := (HDB.out k e.symm).2; omega, by omega⟩) (fun _ hk => hk) HT.out (by omega) ?c1)
          case c1 =>
          intro v' w' hB' hb
          rw [HX.out] at hB'
          have hbs := hb.size
          have hA3 := HA2.out.keep hb (by omega)
          have hR3 := HR2.out.keep hb (by omega)
          obtain ⟨y0, y1, y2, y3⟩ := hA3.two
          have hB3 := hB'.toRd okBB (F := fun k => w.heap.size + 2 ≤ k) (fun k hk => hk) (fun _ hk => hk)
          obtain ⟨A4, c4, rfl, _, _⟩ := hB3.shape
          have hA5 := hA3.set_ 0 (.slice A4 (disksN (k + 1)).length c4)
          have hR5 := hR3.far (b' := w.heap.size + 1) (j := 0) (v := .slice A4 (disksN (k + 1)).length c4) (by omega)
          have hD5 := hB'.setc okBB (b := w.heap.size + 1) (j := 0) (v := .slice A4 (disksN (k + 1)).length c4) (fun k hk => by have := (hB'.blk k hk).1; omega) (fun k hk _ => by omega)
          have hB5 := (HB2.out.trans (hb.mono (by omega))).setCell (p := ⟨w.heap.size + 1, 0, none⟩) (by show w.heap.size ≤ w.heap.size + 1; omega) (.slice A4 (disksN (k + 1)).length c4)
          have hs5 : w.heap.size + 2 ≤ (w'.setCell ⟨w.heap.size + 1, 0, none⟩ (.slice A4 (disksN (k + 1)).length c4)).heap.size := by rw [setCell_size]; omega
          have H := Lib.hid (And.intro hA5 (And.intro hD5 (And.intro hR5 (And.intro hB5 hs5))))
          clear hA3 hR3 hB3 hA5 hR5 hD5 hB5 hs5 hB' x0 x1 x2 x3
          go_wp2
          go_roundw
          case rel => exact ⟨k + 1, by omega, by go_num, ⟨_, H.out.1, H.out.2.1⟩, H.out.2.2.1, H.out.2.2.2.1, H.out.2.2.2.2⟩
          case measure => simp [intOf]; omega
    · obtain rfl : k = 4 := by omega
      have hD2 := hD1.toRd okBB (F := fun k => w.heap.size + 2 ≤ k) (fun k hk => hk) (fun _ hk => hk)
      obtain ⟨A4, c4, rfl, _, _⟩ := hD2.shape
      obtain ⟨x0, x1, x2, x3⟩ := hA1.two
      obtain ⟨y0, y1, y2, y3⟩ := hR1.two
      have hr : RdA wo (fun k => w.heap.size + 2 ≤ k) (.agg #[.slice A4 (disksN 4).length c4, .slice none 0 0]) newA := ⟨_, _, rfl, hD2, RdIs.nil_ _ _ _ _ (by decide)⟩
      have hr3 : RdA (set2 wo w.heap.size (.slice A4 (disksN 4).length c4) (.slice none 0 0)) _ _ _ := hr.set2 (b := w.heap.size) fun k hk => by omega
      have hb3 := hB1.trans (below_set2 (b := w.heap.size) (v0 := .slice A4 (disksN 4).length c4) (v1 := .slice none 0 0) (Nat.le_refl _))
      have H := Lib.hid (And.intro (hr3.mono (F' := fun k => w.heap.size ≤ k) fun k hk => by omega) hb3)
      clear hr hr3 hb3 hD2 hD1 hA1 hR1 hB1
      go_wp2_with fail
      exact bodyPost_ret (v := .agg #[.slice A4 (disksN 4).length c4, .slice none 0 0]) (by simp [results, Tryd.results58, go_sem, *]) rfl ⟨_, rfl, H.out.1, H.out.2⟩
end Go.Proofs.YtdcmbdghnkgghaaDoor

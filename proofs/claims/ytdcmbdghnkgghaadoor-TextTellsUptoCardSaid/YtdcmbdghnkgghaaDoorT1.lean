/- Chapter 6: what text.number computes. -/
import Derived.Test.YtdcmbdghnkgghaaDoorShelf
import Derived.Test.YtdcmbdghnkgghaaDoorRows
import Derived.Test.YtdcmbdghnkgghaaDoorC22
import Derived.WalkSmall
import Derived.Lib.AppendIntMem
import Derived.Lib.SmallJoins
namespace Go.Proofs.YtdcmbdghnkgghaaDoor
set_option linter.unusedVariables false
open Go Go.RowKit M
/-- The table's name, as the rows list it. -/
noncomputable def powName : String := ((Rows.textTellsRow.laid[2]?).map (·.1)).getD default
/-- What is wanted of the library's own variables. -/
structure Vars (w : World) : Prop where
  ml : ∃ m, w.cell? ⟨0, 0, none⟩ = some (.int .i64 m)
  e1 : ∃ ev, w.cell? ⟨1, 0, none⟩ = some ev ∧ (ev = .nilIface ∨ ∃ te pe, ev = .iface te pe)
  e2 : ∃ ev, w.cell? ⟨2, 0, none⟩ = some ev ∧ (ev = .nilIface ∨ ∃ te pe, ev = .iface te pe)
  tab : Lib.TabIs Tryd.prog w powName .u64 Lib.pow10Tab
theorem Vars.grow {w w' : World} (h : Vars w) (hb : Below w.heap.size w w') : Vars w' := by
  obtain ⟨⟨m, h0⟩, ⟨e1, h1, g1⟩, ⟨e2, h2, g2⟩, h3⟩ := h
  refine ⟨⟨m, (hb.cell (World.block_lt_of_cell? _ _ h0)).trans h0⟩, ⟨e1, (hb.cell (World.block_lt_of_cell? _ _ h1)).trans h1, g1⟩, ⟨e2, (hb.cell (World.block_lt_of_cell? _ _ h2)).trans h2, g2⟩, ?_⟩
  have hg : Tryd.prog.globalNamed powName = some 3 := by kernel_rfl
  have hc := Lib.TabIs.cell h3 hg 0 (by decide)
  exact var?_below hb hg (World.block_lt_of_cell? _ _ hc) h3
def numP (l : List UInt8) : Int × Bool :=
  match Lib.atoiAll l with
  | .ok v => (v, Lib.itoa v == l)
  | .range => (Lib.atoiSat l, false)
  | _ => (0, false)
/-- A numeral, none, or one out of range. -/
theorem atoi_three (l : List UInt8) : (∃ v, Lib.atoiAll l = .ok v) ∨ Lib.atoiAll l = Lib.atoiAll [] ∨ Lib.atoiAll l = .range := by
  cases h : Lib.atoiAll l
  · exact .inl ⟨_, rfl⟩
  · exact .inr (.inl rfl)
  · exact .inr (.inr rfl)
theorem text_number (s : ByteArray) (hs : s.size ≤ 281474976710656) (w : World) (hv : Vars w) :
    Calls Tryd.prog 27 #[.string s] w fun e w' => e = .returned (.tuple #[.int .i64 (numP s.data.toList).1, .bool (numP s.data.toList).2]) ∧ Below w.heap.size w w' := by
  rcases atoi_three s.data.toList with ⟨v, h⟩ | h | h
  · have hP : numP s.data.toList = (v, Lib.itoa v == s.data.toList) := by unfold numP; rw [h]
    have HP := Lib.hid hP
    have HV := Lib.hid hv
    have HB := Lib.hid (Lib.atoiAll_bounds h)
    clear hP hv
    go_enter Tryd.func27, Tryd.ntmps27
    go_wp2_with fail
    refine (Tryd.strconv_Atoi_ok s (by omega) v h w).mono ?_
    rintro e w1 ⟨rfl, hw⟩
    have hb : Below w.heap.size w w1 := by
      rcases hw with rfl | ⟨t, rfl⟩
      · exact Below.refl _ _
      · exact Joins.below_bytesWorld _ _ _ _ (Nat.le_refl _)
    have HB1 := Lib.hid hb
    have HV1 := Lib.hid (HV.out.grow hb)
    clear hw hb h
    go_wp2_with fail
    refine (Tryd.strconv_Itoa v HB.out.1 HB.out.2 w1 HV1.out.tab).mono ?_
    rintro e w2 ⟨rfl, k, os, rfl⟩
    have hb2 := HB1.out.trans ((Lib.below_grow _ w1 (Nat.le_refl _) k os).mono HB1.out.size)
    generalize Sort.grow (w1.drewN k) os = w2 at *
    clear HB
    go_wp2_with fail
    exact bodyPost_ret (v := .tuple #[.int .i64 v, .bool (Lib.itoa v == s.data.toList)]) (by simp [results, Tryd.results27, go_sem, ByteArray.toList_eq, *]) rfl ⟨by rw [HP.out], hb2⟩
  · have hP : numP s.data.toList = (0, false) := by unfold numP; rw [h]; rfl
    have HP := Lib.hid hP
    obtain ⟨ev, hev, hg⟩ := hv.e1
    clear hP hv
    go_enter Tryd.func27, Tryd.ntmps27
    go_wp2_with fail
    refine (Tryd.strconv_Atoi_syntax s hs h ev w hev hg).mono ?_
    rintro e w1 ⟨N, rfl, _, _, hb⟩
    clear h hev hg
    go_wp2_with fail
    exact bodyPost_ret (v := .tuple #[.int .i64 0, .bool false]) (by simp [results, Tryd.results27, go_sem, *]) rfl ⟨by rw [HP.out], hb⟩
  · have hP : numP s.data.toList = (Lib.atoiSat s.data.toList, false) := by unfold numP; rw [h]
    have HP := Lib.hid hP
    obtain ⟨ev, hev, hg⟩ := hv.e2
    clear hP hv
    go_enter Tryd.func27, Tryd.ntmps27
    go_wp2_with fail
    refine (Tryd.strconv_Atoi_range s hs h ev w hev hg).mono ?_
    rintro e w1 ⟨N, rfl, _, _, hb⟩
    clear h hev hg
    generalize Lib.atoiSat s.data.toList = v at *
    go_wp2_with fail
    exact bodyPost_ret (v := .tuple #[.int .i64 v, .bool false]) (by simp [results, Tryd.results27, go_sem, *]) rfl ⟨by rw [HP.out], hb⟩
end Go.Proofs.YtdcmbdghnkgghaaDoor

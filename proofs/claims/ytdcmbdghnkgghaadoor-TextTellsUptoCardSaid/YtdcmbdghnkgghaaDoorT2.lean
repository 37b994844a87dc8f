/- Chapter 6: what text.Parse computes: the plain functions, and the map of kinds. -/
import Derived.Test.YtdcmbdghnkgghaaDoorT1
import Derived.Maps.OwnOps
import Derived.Lib.SplitLaws
namespace Go.Proofs.YtdcmbdghnkgghaaDoor
set_option linter.unusedVariables false
open Go Go.RowKit M Go.Maps Go.WideMaps
def sp : ByteArray := ⟨#[32]⟩
def wordW : List UInt8 := [119, 114, 105, 116, 101]
def wordS : List UInt8 := [115, 119, 97, 112]
def kindP (l : List UInt8) : Int := if l = wordW then 1 else if l = wordS then 2 else 0
def hexs : List UInt8 := [48, 49, 50, 51, 52, 53, 54, 55, 56, 57, 97, 98, 99, 100, 101, 102]
def hexA (c : UInt8) : Int := Lib.indexByte hexs c
def hexB (c d : UInt8) : UInt8 := UInt8.ofNat (16 * max (hexA c) 0 + max (hexA d) 0).toNat
/-- The bytes that pairs of digits are, up to the first that is none; and whether there is none such. -/
def hexP : List UInt8 → List UInt8 × Bool
  | c :: d :: r => if 0 ≤ hexA c ∧ 0 ≤ hexA d then (hexB c d :: (hexP r).1, (hexP r).2) else ([hexB c d], false)
  | _ => ([], true)
def zeroD : Deed := ⟨0, 0, 0, []⟩
def endP (d : Deed) (ok : Bool) : Deed × Int := if ok = false then (zeroD, 2) else if wrongI d ≠ 0 then (zeroD, wrongI d) else (d, 0)
/-- The deed of pieces. -/
def pieceP (ps : List (List UInt8)) : Deed × Int :=
  if kindP (ps.getD 0 []) = 0 then (zeroD, 1)
  else if ps.length ≠ 3 then (zeroD, 2)
  else if kindP (ps.getD 0 []) = 2 then endP ⟨2, (numP (ps.getD 1 [])).1, (numP (ps.getD 2 [])).1, []⟩ ((numP (ps.getD 1 [])).2 && (numP (ps.getD 2 [])).2)
  else if (numP (ps.getD 1 [])).2 = false ∨ (ps.getD 2 []).length % 2 ≠ 0 then (zeroD, 2)
  else endP ⟨1, (numP (ps.getD 1 [])).1, 0, (hexP (ps.getD 2 [])).1⟩ (hexP (ps.getD 2 [])).2
def parseP (l : List UInt8) : Deed × Int := pieceP (Lib.splitK [32] 0 (Lib.count l [32]) l)
theorem law9 : Keyed Tryd.prog 9 := string_keyed Tryd.underlying9
theorem zero3 (w : World) : (zeroValue 3).run Tryd.prog w = .ok (.int .i64 0) w := by kernel_rfl
theorem kinds_D : ((DataW.map [] : DataW Unit).put (.string (⟨#[119, 114, 105, 116, 101]⟩ : ByteArray).data.toList) (.lit (.int .i64 1))).put (.string (⟨#[115, 119, 97, 112]⟩ : ByteArray).data.toList) (.lit (.int .i64 2)) = .map [(.string wordS, .lit (.int .i64 2)), (.string wordW, .lit (.int .i64 1))] := by kernel_rfl
theorem lit_inj {a c : Int} (h : (.lit (.int .i64 a) : DataW Unit) = .lit (.int .i64 c)) : c = a := by
  injection h with h
  injection h with _ h
  exact h.symm
theorem at_W : (.map [(.string wordS, .lit (.int .i64 2)), (.string wordW, .lit (.int .i64 1))] : DataW Unit).atKey (.string wordW) (.lit (.int .i64 0)) = .lit (.int .i64 1) := by kernel_rfl
theorem at_S : (.map [(.string wordS, .lit (.int .i64 2)), (.string wordW, .lit (.int .i64 1))] : DataW Unit).atKey (.string wordS) (.lit (.int .i64 0)) = .lit (.int .i64 2) := by kernel_rfl
theorem at_no {l : List UInt8} (e1 : l ≠ wordW) (e2 : l ≠ wordS) : (.map [(.string wordS, .lit (.int .i64 2)), (.string wordW, .lit (.int .i64 1))] : DataW Unit).atKey (.string l) (.lit (.int .i64 0)) = .lit (.int .i64 0) := by
  have a1 : (Lit.string wordS).sameKey (.string l) = false := by simp [Lit.sameKey]; exact fun e => e2 e.symm
  have a2 : (Lit.string wordW).sameKey (.string l) = false := by simp [Lit.sameKey]; exact fun e => e1 e.symm
  unfold DataW.atKey
  simp [List.find?, a1, a2]
/-- The map of kinds, asked. -/
theorem kind_map (w : World) (p : ByteArray) (hp : p.size ≤ 1048576) : ∃ w3 w4, (Instr.mapUpdate 61 (.map (some w.heap.size)) (.string ⟨#[119, 114, 105, 116, 101]⟩) (.int .i64 1)).run Tryd.prog (w.alloc (.map #[] 0)) = .ok () w3 ∧
    (Instr.mapUpdate 61 (.map (some w.heap.size)) (.string ⟨#[115, 119, 97, 112]⟩) (.int .i64 2)).run Tryd.prog w3 = .ok () w4 ∧
    (Instr.lookup 61 (.map (some w.heap.size)) (.string p) false).run Tryd.prog w4 = .ok (.int .i64 (kindP p.data.toList)) w4 ∧ Below w.heap.size w w4 := by
  have h0 := World.ownsMap_made (H := Unit) w Tryd.prog 9 (plainElem Tryd.prog 3)
  obtain ⟨w3, r1, h1, g1⟩ := h0.update law9 Tryd.underlying61 (by decide) (key := .string ⟨#[119, 114, 105, 116, 101]⟩) (val := .int .i64 1) (keyOf_string_mk Tryd.underlying9 (by decide)) (plainElem_int Tryd.underlying3 (by decide))
  obtain ⟨w4, r2, h2, g2⟩ := h1.update law9 Tryd.underlying61 (by decide) (key := .string ⟨#[115, 119, 97, 112]⟩) (val := .int .i64 2) (keyOf_string_mk Tryd.underlying9 (by decide)) (plainElem_int Tryd.underlying3 (by decide))
  obtain ⟨c, r3, hat, _⟩ := h2.lookup_int law9 Tryd.underlying61 Tryd.underlying3 (zero3 w4) (key := .string p) (keyOf_string_mk Tryd.underlying9 (by unfold maxLen; omega))
  have hc : c = kindP p.data.toList := by
    rw [kinds_D] at hat
    unfold kindP
    by_cases e1 : p.data.toList = wordW
    · rw [if_pos e1]
      rw [e1, at_W] at hat
      exact lit_inj hat
    · rw [if_neg e1]
      by_cases e2 : p.data.toList = wordS
      · rw [if_pos e2]
        rw [e2, at_S] at hat
        exact lit_inj hat
      · rw [if_neg e2]
        rw [at_no e1 e2] at hat
        exact lit_inj hat
  subst hc
  refine ⟨w3, w4, r1, r2, r3, ?_⟩
  have hb := below_alloc w (.map #[] 0)
  have hs : w.heap.size ≤ (w.alloc (.map #[] 0)).heap.size := hb.size
  have hb3 := hb.grown g1 hs (fun k hk => by injection hk with hk; omega)
  exact hb3.grown g2 hb3.size (fun k hk => by injection hk with hk; omega)
theorem piece_le (sep : ByteArray) (save : Nat) : ∀ (k : Nat) (s p : ByteArray), p ∈ Lib.splitB sep save k s → p.size ≤ s.size
  | 0, s, p, h => by rw [Lib.splitB_zero, List.mem_singleton] at h; rw [h]; exact Nat.le_refl _
  | k + 1, s, p, h => by
    unfold Lib.splitB at h
    split at h
    · rw [List.mem_singleton] at h; rw [h]; exact Nat.le_refl _
    · rcases List.mem_cons.1 h with h | h
      · rw [h, ByteArray.size_extract]; omega
      · have := piece_le sep save k _ p h
        rw [ByteArray.size_extract] at this
        omega
end Go.Proofs.YtdcmbdghnkgghaaDoor

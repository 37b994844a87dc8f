/- Merged: Base C1 C3 C4 C2 CL C5 C5b C5c C5d C5e. -/
import Derived.Test.YtdcmbdghnkgghaaDoorRows
import Derived.Test.YtdcmbdghnkgghaaDoorZb
import Derived.WalkKit
import Derived.WalkSpells
import Derived.WalkLawsBesides
import Derived.Handy
import Derived.Lib.Hide
import Derived.Lib.SlBytesConst
import Derived.Deep.QuietTactic
import Derived.BigQuiet
import Derived.Deep.DeepFit
import Derived.Deep.DeepMust
import Derived.Deep.LoopGhost
import Derived.Deep.RegionWith
import Derived.Test.YtdcmbdghnkgghaaDoorZa
import Derived.Laws.BitsAllLaws
import Derived.Lib.SliceRun
namespace Go.Proofs.YtdcmbdghnkgghaaDoor
set_option linter.unusedVariables false
open Go.RowKit M

theorem own : ownKnob Tryd.prog.godebug = none := by kernel_rfl
theorem laidOut : laidOutB Tryd.prog = true := by kernel_rfl

theorem ret_int {k : IntKind} {a b : Int} (h : a = b) : Ending.returned (.int k a) = .returned (.int k b) := by rw [h]
theorem ret_bool {a b : Bool} (h : a = b) : Ending.returned (.bool a) = .returned (.bool b) := by rw [h]
theorem sl_of {t e : TypeId} {z : Value} {bytes : Nat} (ht : Tryd.prog.underlying t = some (.slice e)) (h : (Tryd.prog.info? e).map (fun i => (i.zero, i.size, i.bytes)) = some (some z, 1, bytes)) (hz : z.cells.size = 1) (hp : 0 < bytes) : M.SlTy Tryd.prog t e bytes := by
  obtain ⟨i, hi, h0, h1, h2⟩ := info_parts h
  exact ⟨i, z, ht, hi, h0, h1, h2, hz, hp⟩
theorem slB : M.SlTy Tryd.prog 22 5 1 := sl_of Tryd.underlying22 (z := .int .u8 0) (by kernel_rfl) rfl (by decide)
theorem slBB : M.SlTy Tryd.prog 38 22 24 := sl_of Tryd.underlying38 (z := .slice none 0 0) (by kernel_rfl) rfl (by decide)
end Go.Proofs.YtdcmbdghnkgghaaDoor

namespace Go.Proofs.YtdcmbdghnkgghaaDoor
set_option linter.unusedVariables false
open Go Go.RowKit M

set_option maxHeartbeats 400000 in
theorem sum_Of (b : Bs) (v : Value) (F : Fp) (w : World) (h : RdB w F v b) :
    Calls Tryd.prog 79 #[v] w fun e w' => e = .returned (.int .i64 ((sumOf b : Nat) : Int)) ∧ w = w' := by
  obtain ⟨A, c, rfl, hc1, hc2⟩ := h.shape
  unfold maxLen at hc2
  go_enter Tryd.func79, Tryd.ntmps79
  go_wp2
  go_loop [3, 8] (fun s i => ∃ k : Nat, k ≤ b.length ∧ i = .int .i64 k ∧ s = .int .i64 (sumI b k)) (fun _ i => b.length - (intOf i).toNat)
  case atStart => exact ⟨0, Nat.zero_le _, rfl, rfl⟩
  case round =>
    obtain ⟨k, hk, rfl, rfl⟩ := hrel
    have s0 := sumI_lo b k
    have s1 := sumI_hi b k
    by_cases hlt : k < b.length
    · obtain ⟨bb, off, u, rfl, _, hu, hR⟩ := h.at_ hlt
      cases hR
      have e0 := at8_get hlt
      have hs := Lib.hid (sumI_succ hlt)
      unfold B8 at hu
      rw [← e0] at hu
      clear e0
      have a0 := at8_lo b k
      have a1 := at8_hi b k
      go_wp2
      go_round
      case rel => exact ⟨k + 1, by omega, by go_num, by rw [hs.out]⟩
      case measure => simp [intOf]; omega
    · go_wp2
      obtain rfl : k = b.length := by omega
      go_ret
      exact ⟨ret_int (sumI_all b), rfl⟩
set_option maxHeartbeats 400000 in
theorem sum_Seal (b : Bs) (v : Value) (F : Fp) (w : World) (h : RdB w F v b) (hlen : b.length ≤ 140737488355326) :
    Calls Tryd.prog 91 #[v] w fun e w' => ∃ v', e = .returned v' ∧ Bld R8 5 w' w.heap.size (fun _ => True) v' (sealB b) ∧ Below w.heap.size w w' := by
  obtain ⟨A, c, rfl, hc1, hc2⟩ := h.shape
  have s0 : 0 ≤ ((sumOf b : Nat) : Int) := by omega
  have s1 : ((sumOf b : Nat) : Int) < 65521 := by have := sumOf_lt b; omega
  generalize hs : ((sumOf b : Nat) : Int) = s at *
  have HS := Lib.hid hs
  clear hs
  go_enter Tryd.func91, Tryd.ntmps91
  go_wp2_with fail
  refine (sum_Of b _ F w h).mono ?_
  rintro e w' ⟨rfl, rfl⟩
  rw [HS.out]
  have h0 := okB.mono h (F' := fun k => some k ≠ Value.ownBlock (.slice none 0 0) ∧ True) (by simp [Value.ownBlock])
  go_wp2_with (at_builtin; refine wpList_append_bld _ rfl _ _ 22 rfl ok8 slB w.heap.size (fun _ => True) _ _ [] b rfl rfl (Bld.nil_ _ _ _ _ _) h0 ?c1 ?c2 ?c3)
  case c1 => simp; omega
  case c2 => exact Nat.le_refl _
  case c3 =>
  intro v1 w1 hb1 hl1 hg1 ho1
  clear h0 h hg1 ho1
  have e1 : (R8 w1 (fun k => some k ≠ v1.ownBlock ∧ True) (.int .u8 (s / 256)) (UInt8.ofNat (sumOf b / 256))) := R8_of (by have := sumOf_lt b; rw [← HS.out]; omega)
  have e2 : (R8 w1 (fun k => some k ≠ v1.ownBlock ∧ True) (.int .u8 (s % 256)) (UInt8.ofNat (sumOf b))) := R8_of (by have := sumOf_lt b; rw [← HS.out]; omega)
  have h2 := RdL.two_ ok8 e1 e2 5 ⟨not_own fun k hk => (hb1.blk k hk).2, trivial⟩
  have hb2 := hb1.alloc ok8 (.cells #[.int .u8 (s / 256), .int .u8 (s % 256)] 5)
  have hl2 : Below w.heap.size w (w1.alloc (.cells #[.int .u8 (s / 256), .int .u8 (s % 256)] 5)) := hl1.alloc hl1.size _
  clear hb1 e1 e2
  go_wp2_with (at_builtin; refine wpList_append_bld _ rfl _ _ 22 rfl ok8 slB w.heap.size (fun _ => True) _ _ b _ rfl rfl hb2 h2 ?c1 ?c2 ?c3)
  case c1 => simp; omega
  case c2 => have := hl2.size; omega
  case c3 =>
  intro v3 w3 hb3 hl3 hg3 ho3
  clear hb2 h2 hg3 ho3
  go_wp2
  go_ret
  exact ⟨_, rfl, hb3, hl2.trans hl3⟩
theorem sum_Sealed_short (b : Bs) (v : Value) (F : Fp) (w : World) (h : RdB w F v b) (hl : b.length < 2) :
    Calls Tryd.prog 65 #[v] w fun e w' => e = .returned (.bool (sealedB b)) ∧ w = w' := by
  have hs : sealedB b = false := by unfold sealedB; simp; omega
  rw [hs]
  obtain ⟨A, c, rfl, hc1, hc2⟩ := h.shape
  unfold maxLen at hc2
  go_enter Tryd.func65, Tryd.ntmps65
  go_wp2
  go_ret
  exact ⟨rfl, rfl⟩
set_option maxHeartbeats 400000 in
theorem sum_Sealed_core (n c bb off : Nat) (x y s : Int) (t : Bs) (F : Fp) (w : World) (hp : RdB w F (.slice (some ⟨bb, off, none⟩) n c) t) (HS : Hid (((sumOf t : Nat) : Int) = s))
    (hu1 : w.cell? ⟨bb, off + n, none⟩ = some (.int .u8 x)) (hu2 : w.cell? ⟨bb, off + (n + 1), none⟩ = some (.int .u8 y)) (hc1 : n + 2 ≤ c) (hc2 : c ≤ maxLen)
    (a0 : 0 ≤ x) (a1 : x ≤ 255) (a2 : 0 ≤ y) (a3 : y ≤ 255) (s0 : 0 ≤ s) (s1 : s < 65521) :
    Calls Tryd.prog 65 #[.slice (some ⟨bb, off, none⟩) (n + 2) c] w fun e w' => e = .returned (.bool (x == s / 256 && y == s % 256)) ∧ w = w' := by
  unfold maxLen at hc2
  by_cases h1 : x = s / 256
  · subst h1
    by_cases h2 : y = s % 256
    · subst h2
      go_enter Tryd.func65, Tryd.ntmps65
      go_wp2_with fail
      refine (sum_Of _ _ F w hp).mono ?_
      rintro e w' ⟨rfl, rfl⟩
      rw [HS.out]
      go_wp2
      go_ret
      exact ⟨ret_bool (by simp), rfl⟩
    · have h2' : (y == s % 256) = false := by simpa using h2
      go_enter Tryd.func65, Tryd.ntmps65
      go_wp2_with fail
      refine (sum_Of _ _ F w hp).mono ?_
      rintro e w' ⟨rfl, rfl⟩
      rw [HS.out]
      go_wp2
      go_ret
      exact ⟨ret_bool (by simp [h2']), rfl⟩
  · have h1' : (x == s / 256) = false := by simpa using h1
    go_enter Tryd.func65, Tryd.ntmps65
    go_wp2_with fail
    refine (sum_Of _ _ F w hp).mono ?_
    rintro e w' ⟨rfl, rfl⟩
    rw [HS.out]
    go_wp2
    go_ret
    exact ⟨ret_bool (by simp [h1']), rfl⟩
theorem sum_Sealed (b : Bs) (v : Value) (F : Fp) (w : World) (h : RdB w F v b) :
    Calls Tryd.prog 65 #[v] w fun e w' => e = .returned (.bool (sealedB b)) ∧ w = w' := by
  by_cases hl : b.length < 2
  · exact sum_Sealed_short b v F w h hl
  have hsa := sealedB_at (b := b) (by omega)
  have s1 := sumOf_lt (b.take (b.length - 2))
  obtain ⟨A, c, rfl, hc1, hc2⟩ := h.shape
  obtain ⟨bb, off, u1, rfl, _, hu1, hR1⟩ := h.at_ (k := b.length - 2) (by omega)
  obtain ⟨bb', off', u2, hA, _, hu2, hR2⟩ := h.at_ (k := b.length - 1) (by omega)
  injection hA with hA
  injection hA with hA1 hA2
  subst hA1
  subst hA2
  cases hR1
  cases hR2
  have hp := h.part (i := 0) (j := b.length - 2) (Nat.zero_le _) (by omega) c (by omega) hc2
  simp only [Nat.add_zero, Nat.sub_zero, List.drop_zero] at hp
  have e1 := at8_get (b := b) (j := b.length - 2) (by omega)
  have e2 := at8_get (b := b) (j := b.length - 1) (by omega)
  unfold B8 at hu1 hu2
  rw [← e1] at hu1
  rw [← e2, show b.length - 1 = (b.length - 2) + 1 by omega] at hu2
  have := sum_Sealed_core (b.length - 2) c bb off _ _ _ _ F w hp rfl hu1 hu2 (by omega) hc2 (at8_lo _ _) (at8_hi _ _) (at8_lo _ _) (at8_hi _ _) (by omega) (by omega)
  rw [show b.length - 2 + 1 = b.length - 1 by omega, show b.length - 2 + 2 = b.length by omega] at this
  rw [hsa]
  exact this
end Go.Proofs.YtdcmbdghnkgghaaDoor

namespace Go.Proofs.YtdcmbdghnkgghaaDoor
set_option linter.unusedVariables false
open Go Go.RowKit M

theorem at8_xor (a b : Bs) (k : Nat) : bits .xor .u8 (at8 a k) (at8 b k) = (((a.getD k 0 ^^^ b.getD k 0).toNat : Nat) : Int) := by
  unfold at8
  rw [u8_xor_nat _ _ (UInt8.toNat_lt _) (UInt8.toNat_lt _), UInt8.toNat_xor]
theorem mk4 (w : World) : (Instr.makeSlice 22 (.int .i64 4) (.int .i64 4)).run Tryd.prog w = .ok (.slice (some ⟨w.heap.size, 0, none⟩) 4 4) (w.alloc (.cells #[.int .u8 0, .int .u8 0, .int .u8 0, .int .u8 0] 5)) := by kernel_rfl
theorem zero4_bld (w : World) : Bld R8 5 (w.alloc (.cells #[.int .u8 0, .int .u8 0, .int .u8 0, .int .u8 0] 5)) w.heap.size (fun _ => True) (.slice (some ⟨w.heap.size, 0, none⟩) 4 4) zero4 :=
  Bld.lit ok8 (us := zero4.map B8) (xs := zero4) 5 (Nat.le_refl _) rfl (by decide) fun j u x hu hx => by
    simp at hu
    obtain ⟨c, hc, rfl⟩ := hu
    rw [hc] at hx
    injection hx with hx
    subst hx
    rfl
set_option maxHeartbeats 400000 in
theorem xor_Two (a b : Bs) (va vb : Value) (F : Fp) (w : World) (ha : RdB w F va a) (hb : RdB w F vb b) (la : a.length = 4) (lb : b.length = 4) :
    Calls Tryd.prog 77 #[va, vb] w fun e w' => ∃ v', e = .returned v' ∧ Bld R8 5 w' w.heap.size (fun _ => True) v' (xorTwo a b) ∧ Below w.heap.size w w' := by
  obtain ⟨A, ca, rfl, _, _⟩ := ha.shape
  obtain ⟨B, cb, rfl, _, _⟩ := hb.shape
  rw [la] at ha ⊢
  rw [lb] at hb ⊢
  have hmk := mk4
  go_enter Tryd.func77, Tryd.ntmps77
  go_wp2
  clear hmk
  go_loopw [10] (fun i wr => ∃ k : Nat, k ≤ 4 ∧ i = .int .i64 k ∧ Bld R8 5 wr w.heap.size (fun _ => True) (.slice (some ⟨w.heap.size, 0, none⟩) 4 4) (xorTo a b k) ∧ Below w.heap.size w wr) (fun i _ => 4 - (intOf i).toNat)
  case atStart => exact ⟨0, Nat.zero_le _, rfl, zero4_bld w, below_alloc w _⟩
  case round =>
    obtain ⟨k, hk, rfl, hO, hl⟩ := hrel
    by_cases hlt : k < 4
    · obtain ⟨ba, oa, u, rfl, _, hu, hR⟩ := (okB.grow ha hl).at_ (k := k) (by omega)
      cases hR
      obtain ⟨bb, ob, u2, rfl, _, hu2, hR⟩ := (okB.grow hb hl).at_ (k := k) (by omega)
      cases hR
      obtain ⟨u3, hu3, hfz, _⟩ := hO.at_ (k := k) (by rw [xorTo_length a b hk]; exact hlt)
      unfold B8 at hu hu2
      rw [← at8_get (by omega)] at hu hu2
      have hx := at8_xor a b k
      have hset := hO.set_ ok8 (k := k) (by rw [xorTo_length a b hk]; exact hlt) (u := .int .u8 (bits .xor .u8 (at8 a k) (at8 b k))) (x := a.getD k 0 ^^^ b.getD k 0) (by unfold R8 B8; rw [hx])
      rw [xorTo_set a b hlt] at hset
      have hl2 := hl.setCell (p := ⟨w.heap.size, k, none⟩) (Nat.le_refl _) (.int .u8 (bits .xor .u8 (at8 a k) (at8 b k)))
      clear hx ha hb hO
      go_wp2
      go_region
      go_wp2
      go_roundw
      case rel => exact ⟨k + 1, by omega, by go_num, hset, hl2.drew⟩
      case measure => simp [intOf]; omega
    · go_wp2
      obtain rfl : k = 4 := by omega
      go_ret
      exact ⟨_, rfl, hO, hl⟩
set_option maxHeartbeats 400000 in
theorem xor_All (l : List Bs) (v : Value) (F : Fp) (w : World) (h : RdBB w F v l) (hl4 : Blocks4 l) :
    Calls Tryd.prog 60 #[v] w fun e w' => ∃ v', e = .returned v' ∧ Bld R8 5 w' w.heap.size (fun _ => True) v' (xorAll l) ∧ Below w.heap.size w w' := by
  obtain ⟨A, c, rfl, _, hc2⟩ := h.shape
  unfold maxLen at hc2
  have hmk := mk4
  go_enter Tryd.func60, Tryd.ntmps60
  go_wp2
  clear hmk
  go_loopw [3, 9] (fun v i wr => ∃ k : Nat, k ≤ l.length ∧ i = .int .i64 k ∧ Bld R8 5 wr w.heap.size (fun _ => True) v (xorAll (l.take k)) ∧ Below w.heap.size w wr) (fun _ i _ => l.length - (intOf i).toNat)
  case atStart => exact ⟨0, Nat.zero_le _, rfl, zero4_bld w, below_alloc w _⟩
  case round =>
    obtain ⟨k, hk, rfl, hO, hlw⟩ := hrel
    by_cases hlt : k < l.length
    · obtain ⟨bb, off, u, rfl, _, hu, hR⟩ := (okBB.grow h hlw).at_ hlt
      have hrd := hO.toRd_ ok8
      have hnext := Lib.hid (xorAll_take hlt)
      have hsz := Lib.hid hlw.size
      clear h hO
      go_wp2_with (go_at_call 77; refine (xor_Two _ _ _ _ (fun _ => True) _ (okB.mono hrd fun _ _ => trivial) (okB.mono hR fun _ _ => trivial) (xorAll_length _) (hl4 _ (List.getElem_mem hlt))).mono ?_; rintro e w' ⟨v', rfl, hv', hb'⟩; rw [← hnext.out] at hv')
      have hv2 : Bld R8 5 w' w.heap.size (fun _ => True) v' (xorAll (l.take (k + 1))) := hv'.base_ hsz.out
      have hl2 := hlw.trans (hb'.mono hsz.out)
      clear hv' hb'
      go_roundw
      case rel => exact ⟨k + 1, by omega, by go_num, hv2, hl2⟩
      case measure => simp [intOf]; omega
    · go_wp2
      obtain rfl : k = l.length := by omega
      rw [List.take_length] at hO
      go_ret
      exact ⟨_, rfl, hO, hlw⟩
theorem at8_zero {b : Bs} (h : b.length = 4) (hz : ∀ j, j < 4 → at8 b j = 0) : b = zero4 :=
  at8_ext h fun j hj => by
    rw [hz j (by omega)]
    unfold at8
    rw [zero4_get]
    rfl
theorem at8_zero4 (j : Nat) : at8 zero4 j = 0 := by unfold at8; rw [zero4_get]; rfl
/-- What the reference's loops have: byte i behind k bits. -/
def refTo (l : List Bs) (i k : Nat) : Bs := (List.range 4).map fun j => if j < i then (xorAll l).getD j 0 else if j = i then UInt8.ofNat (refByte l i k) else 0
theorem refTo_length (l : List Bs) (i k : Nat) : (refTo l i k).length = 4 := by simp [refTo]
theorem refTo_start (l : List Bs) : refTo l 0 0 = zero4 := rfl
theorem refTo_set (l : List Bs) (i k : Nat) (hi : i < 4) : (refTo l i k).set i (UInt8.ofNat (refByte l i (k + 1))) = refTo l i (k + 1) := by
  match i, hi with
  | 0, _ => rfl
  | 1, _ => rfl
  | 2, _ => rfl
  | 3, _ => rfl
theorem refTo_next (l : List Bs) (i : Nat) (hi : i < 4) : refTo l i 8 = refTo l (i + 1) 0 := by
  unfold refTo
  rw [refByte_all l i hi]
  match i, hi with
  | 0, _ => simp [List.range, List.range.loop, refByte]
  | 1, _ => simp [List.range, List.range.loop, refByte]
  | 2, _ => simp [List.range, List.range.loop, refByte]
  | 3, _ => simp [List.range, List.range.loop]
theorem refTo_all (l : List Bs) : refTo l 4 0 = xorAll l := by
  obtain ⟨x, y, z, t, h⟩ := len4 (xorAll_length l)
  simp [refTo, h, List.range, List.range.loop]
theorem refTo_at (l : List Bs) (i k : Nat) (hi : i < 4) (hk : k < 8) : at8 (refTo l i k) i = ((refByte l i k : Nat) : Int) := by
  have hb := refByte_lt l i k
  have h2 : 2 ^ k ≤ 2 ^ 7 := Nat.pow_le_pow_right (by decide) (by omega)
  have e : (refTo l i k).getD i 0 = UInt8.ofNat (refByte l i k) := by
    match i, hi with
    | 0, _ => rfl
    | 1, _ => rfl
    | 2, _ => rfl
    | 3, _ => rfl
  unfold at8
  rw [e, UInt8.toNat_ofNat']
  omega
theorem cnt_round (l : List Bs) (i m q : Nat) (hq : q < l.length) (p : Int) (hp : p = ((2 ^ m : Nat) : Int)) :
    ((cntB (l.take (q + 1)) i m : Nat) : Int) = if at8 (l[q]) i / p % 2 = 1 then ((cntB (l.take q) i m : Nat) : Int) + 1 else ((cntB (l.take q) i m : Nat) : Int) := by
  rw [cntB_take hq]
  subst hp
  unfold at8
  have : (((l[q].getD i 0).toNat : Nat) : Int) / ((2 ^ m : Nat) : Int) % 2 = (((l[q].getD i 0).toNat / 2 ^ m % 2 : Nat) : Int) := by omega
  rw [this]
  split
  · rename_i h; rw [if_pos (by omega)]; omega
  · rename_i h; rw [if_neg (by omega)]; omega
end Go.Proofs.YtdcmbdghnkgghaaDoor

namespace Go.Proofs.YtdcmbdghnkgghaaDoor
set_option linter.unusedVariables false
open Go Go.RowKit M

def where_ (n : Nat) : Nat := if 3 - n / 3 ≤ n % 3 then n % 3 + 1 else n % 3
theorem plan_Spare (s : Int) (w : World) (h0 : 0 ≤ s) (h1 : s ≤ 1000000) :
    Calls Tryd.prog 59 #[.int .i64 s] w fun e w' => e = .returned (.int .i64 (3 - s % 4)) ∧ w = w' := by
  go_enter Tryd.func59, Tryd.ntmps59
  go_wp2
  go_ret
  exact ⟨ret_int (by omega), rfl⟩
theorem plan_Where_no (n : Int) (w : World) (h : n < 0 ∨ 9 ≤ n) :
    Calls Tryd.prog 42 #[.int .i64 n] w fun e w' => e = .returned (.tuple #[.int .i64 0, .int .i64 0, .int .i64 3]) ∧ w = w' := by
  rcases h with h | h
  · go_enter Tryd.func42, Tryd.ntmps42
    go_wp2
    go_ret3
    exact ⟨rfl, rfl⟩
  · go_enter Tryd.func42, Tryd.ntmps42
    go_wp2
    go_ret3
    exact ⟨rfl, rfl⟩
theorem plan_Where (n : Nat) (w : World) (h : n < 9) :
    Calls Tryd.prog 42 #[.int .i64 n] w fun e w' => e = .returned (.tuple #[.int .i64 ((where_ n : Nat) : Int), .int .i64 ((n / 3 : Nat) : Int), .int .i64 0]) ∧ w = w' := by
  match n, h with
  | 0, _ | 1, _ | 2, _ | 3, _ | 4, _ | 5, _ | 6, _ | 7, _ | 8, _ =>
    go_enter Tryd.func42, Tryd.ntmps42
    go_wp2
    go_ret3
    exact ⟨rfl, rfl⟩

def blockI (d s : Int) : Int := if d = 3 - s then -1 else if 3 - s < d then s * 3 + (d - 1) else s * 3 + d
theorem ref_Spare (s : Int) (w : World) (h0 : 0 ≤ s) (h1 : s ≤ 1000000) :
    Calls Tryd.prog 57 #[.int .i64 s] w fun e w' => e = .returned (.int .i64 (3 - s % 4)) ∧ Below w.heap.size w w' := by
  have hm : s % 4 = 0 ∨ s % 4 = 1 ∨ s % 4 = 2 ∨ s % 4 = 3 := by omega
  rcases hm with hm | hm | hm | hm
  all_goals
    go_enter Tryd.func57, Tryd.ntmps57
    go_wp2
    go_ret
    exact ⟨ret_int (by omega), below_alloc _ _⟩
def cntW (s d : Int) : Int := 3 * s + (if 3 - s < d then d - 1 else d)
/-- Where a block is: a closed table. -/
def whD (n : Int) : Int := if 3 - n / 3 ≤ n % 3 then n % 3 + 1 else n % 3
set_option maxHeartbeats 800000 in
theorem ref_Where_no (n : Int) (w : World) (hn : n < 0 ∨ 9 ≤ n) :
    Calls Tryd.prog 32 #[.int .i64 n] w fun e w' => e = .returned (.tuple #[.int .i64 0, .int .i64 0, .int .i64 3]) ∧ Below w.heap.size w w' := by
  go_enter Tryd.func32, Tryd.ntmps32
  go_wp2
  go_loopw [5, 8] (fun c i wr => ∃ s : Nat, s ≤ 3 ∧ i = .int .i64 s ∧ c = .int .i64 (3 * s) ∧ Below w.heap.size w wr) (fun _ i _ => 3 - (intOf i).toNat)
  case atStart => exact ⟨0, Nat.zero_le _, rfl, rfl, Below.refl _ _⟩
  case round =>
    obtain ⟨s, hs, rfl, rfl, hl⟩ := hrel
    by_cases hlt : s < 3
    · have hb3 : decide ((s : Int) < 3) = true := by simp; omega
      go_wp2
      obtain ⟨wo, rfl⟩ : ∃ wo : World, wo = wr := ⟨_, rfl⟩
      go_loopw [5, 11] (fun c i wr => ∃ d : Nat, d ≤ 4 ∧ i = .int .i64 d ∧ c = .int .i64 (cntW s d) ∧ Below w.heap.size w wr) (fun _ i _ => 4 - (intOf i).toNat)
      case atStart => exact ⟨0, Nat.zero_le _, rfl, by unfold cntW; rw [if_neg (by omega)]; congr 1, hl⟩
      case round =>
        obtain ⟨d, hd, rfl, rfl, hl⟩ := hrel
        by_cases hld : d < 4
        · have hc0 : 0 ≤ cntW s d := by unfold cntW; split <;> omega
          have hc1 : cntW s d ≤ 9 := by unfold cntW; split <;> omega
          have hsp : (3 : Int) - (s : Int) % 4 = 3 - (s : Int) := by omega
          have HS := Lib.hid hsp
          clear hsp
          by_cases hds : (d : Int) = 3 - (s : Int)
          · have hcn : cntW s d = cntW s ((d : Int) + 1) := by unfold cntW; rw [if_neg (by omega), if_pos (by omega)]; omega
            have HC := Lib.hid hcn
            have HD := Lib.hid hds
            have hb : ((d : Int) == 3 - (s : Int)) = true := by simpa using hds
            clear hcn hds
            go_wp2_with (go_at_call 57; refine (ref_Spare _ _ (by omega) (by omega)).mono ?_; rintro e w' ⟨rfl, hb'⟩; rw [HS.out])
            have hl2 := hl.trans (hb'.mono hl.size)
            clear hb'
            go_roundw
            case rel => exact ⟨d + 1, by omega, by go_num, by rw [HC.out]; rfl, hl2⟩
            case measure => simp [intOf]; omega
          · have hcn : cntW s d + 1 = cntW s ((d : Int) + 1) := by unfold cntW; split <;> split <;> omega
            have HC := Lib.hid hcn
            have hcx : cntW s d < 9 := by unfold cntW; split <;> omega
            have hb : ((d : Int) == 3 - (s : Int)) = false := by simpa using hds
            have hb2 : (cntW s d == n) = false := by simp; omega
            clear hcn hds
            generalize cntW s d = x at *
            go_wp2_with (go_at_call 57; refine (ref_Spare _ _ (by omega) (by omega)).mono ?_; rintro e w' ⟨rfl, hb'⟩; rw [HS.out])
            have hl2 := hl.trans (hb'.mono hl.size)
            clear hb'
            go_roundw
            case rel => exact ⟨d + 1, by omega, by go_num, by rw [HC.out]; rfl, hl2⟩
            case measure => simp [intOf]; omega
        · obtain rfl : d = 4 := by omega
          have hcn : cntW s (4 : Nat) = 3 * ((s : Int) + 1) := by unfold cntW; rw [if_pos (by omega)]; omega
          have HC := Lib.hid hcn
          clear hcn
          go_wp2
          go_roundw
          case rel => exact ⟨s + 1, by omega, by go_num, by rw [HC.out]; rfl, hl⟩
          case measure => simp [intOf]; omega
    · go_wp2
      go_ret3
      exact ⟨rfl, hl⟩
set_option maxHeartbeats 800000 in
theorem ref_Where (n : Nat) (w : World) (hn : n < 9) :
    Calls Tryd.prog 32 #[.int .i64 n] w fun e w' => e = .returned (.tuple #[.int .i64 ((where_ n : Nat) : Int), .int .i64 ((n / 3 : Nat) : Int), .int .i64 0]) ∧ Below w.heap.size w w' := by
  go_enter Tryd.func32, Tryd.ntmps32
  go_wp2
  go_loopw [5, 8] (fun c i wr => ∃ s : Nat, s ≤ 3 ∧ 3 * (s : Int) ≤ n ∧ i = .int .i64 s ∧ c = .int .i64 (3 * s) ∧ Below w.heap.size w wr) (fun _ i _ => 3 - (intOf i).toNat)
  case atStart => exact ⟨0, Nat.zero_le _, by omega, rfl, rfl, Below.refl _ _⟩
  case round =>
    obtain ⟨s, hs, hsn, rfl, rfl, hl⟩ := hrel
    by_cases hlt : s < 3
    · have hb3 : decide ((s : Int) < 3) = true := by simp; omega
      go_wp2
      obtain ⟨wo, rfl⟩ : ∃ wo : World, wo = wr := ⟨_, rfl⟩
      go_loopw [5, 11] (fun c i wr => ∃ d : Nat, d ≤ 4 ∧ cntW s d ≤ n ∧ i = .int .i64 d ∧ c = .int .i64 (cntW s d) ∧ Below w.heap.size w wr) (fun _ i _ => 4 - (intOf i).toNat)
      case atStart => exact ⟨0, Nat.zero_le _, by unfold cntW; rw [if_neg (by omega)]; omega, rfl, by unfold cntW; rw [if_neg (by omega)]; congr 1, hl⟩
      case round =>
        obtain ⟨d, hd, hdn, rfl, rfl, hl⟩ := hrel
        by_cases hld : d < 4
        · have hc0 : 0 ≤ cntW s d := by unfold cntW; split <;> omega
          have hc1 : cntW s d ≤ 9 := by unfold cntW; split <;> omega
          have hsp : (3 : Int) - (s : Int) % 4 = 3 - (s : Int) := by omega
          have HS := Lib.hid hsp
          clear hsp
          by_cases hds : (d : Int) = 3 - (s : Int)
          · have hcn : cntW s d = cntW s ((d : Int) + 1) := by unfold cntW; rw [if_neg (by omega), if_pos (by omega)]; omega
            have HC := Lib.hid hcn
            have HN : Hid (cntW s (((d + 1 : Nat)) : Int) ≤ n) := Lib.hid (by rw [show (((d + 1 : Nat)) : Int) = (d : Int) + 1 by omega, ← hcn]; exact hdn)
            have hb : ((d : Int) == 3 - (s : Int)) = true := by simpa using hds
            clear hcn hds
            go_wp2_with (go_at_call 57; refine (ref_Spare _ _ (by omega) (by omega)).mono ?_; rintro e w' ⟨rfl, hb'⟩; rw [HS.out])
            have hl2 := hl.trans (hb'.mono hl.size)
            clear hb'
            go_roundw
            case rel => exact ⟨d + 1, by omega, HN.out, by go_num, by rw [HC.out]; rfl, hl2⟩
            case measure => simp [intOf]; omega
          · have hcn : cntW s d + 1 = cntW s ((d : Int) + 1) := by unfold cntW; split <;> split <;> omega
            have HC := Lib.hid hcn
            have hcx : cntW s d < 9 := by unfold cntW; split <;> omega
            have hb : ((d : Int) == 3 - (s : Int)) = false := by simpa using hds
            have hxd : cntW s d = 3 * (s : Int) + d ∧ (d : Int) < 3 - s ∨ cntW s d = 3 * (s : Int) + d - 1 ∧ 3 - (s : Int) < d := by unfold cntW; split <;> omega
            by_cases hxn : cntW s d = n
            · have hb2 : (cntW s d == (n : Int)) = true := by simpa using hxn
              have r1 : where_ n = d := by unfold where_; split <;> omega
              have r2 : n / 3 = s := by omega
              have R1 := Lib.hid r1
              have R2 := Lib.hid r2
              clear hcn hds r1 r2 hxn hxd
              generalize cntW s d = x at *
              go_wp2_with (go_at_call 57; refine (ref_Spare _ _ (by omega) (by omega)).mono ?_; rintro e w' ⟨rfl, hb'⟩; rw [HS.out])
              have hl2 := hl.trans (hb'.mono hl.size)
              clear hb'
              go_ret3
              exact ⟨by rw [R1.out, R2.out]; rfl, hl2⟩
            · have hb2 : (cntW s d == (n : Int)) = false := by simpa using hxn
              have HN : Hid (cntW s (((d + 1 : Nat)) : Int) ≤ n) := Lib.hid (by rw [show (((d + 1 : Nat)) : Int) = (d : Int) + 1 by omega, ← hcn]; omega)
              clear hcn hds hxn hxd
              generalize cntW s d = x at *
              go_wp2_with (go_at_call 57; refine (ref_Spare _ _ (by omega) (by omega)).mono ?_; rintro e w' ⟨rfl, hb'⟩; rw [HS.out])
              have hl2 := hl.trans (hb'.mono hl.size)
              clear hb'
              go_roundw
              case rel => exact ⟨d + 1, by omega, HN.out, by go_num, by rw [HC.out]; rfl, hl2⟩
              case measure => simp [intOf]; omega
        · obtain rfl : d = 4 := by omega
          have hcn : cntW s (4 : Nat) = 3 * ((s : Int) + 1) := by unfold cntW; rw [if_pos (by omega)]; omega
          have HC := Lib.hid hcn
          have hs1 : 3 * (s : Int) + 3 ≤ n := by omega
          clear hcn
          go_wp2
          go_roundw
          case rel => exact ⟨s + 1, by omega, by omega, by go_num, by rw [HC.out]; rfl, hl⟩
          case measure => simp [intOf]; omega
    · exfalso; omega
/-- What is at a place, for the reference: the first block that is there, else below 0. -/
theorem where_at (d s : Int) (h0 : 0 ≤ d) (h1 : d < 4) (h2 : 0 ≤ s) (h3 : s < 3) :
    (blockI d s = -1 ∧ ∀ n : Nat, n < 9 → ¬(((where_ n : Nat) : Int) = d ∧ ((n / 3 : Nat) : Int) = s)) ∨
    (∃ m : Nat, m < 9 ∧ blockI d s = m ∧ ((where_ m : Nat) : Int) = d ∧ ((m / 3 : Nat) : Int) = s ∧ ∀ n : Nat, n < m → ¬(((where_ n : Nat) : Int) = d ∧ ((n / 3 : Nat) : Int) = s)) := by
  obtain ⟨d, rfl⟩ := Int.eq_ofNat_of_zero_le h0
  obtain ⟨s, rfl⟩ := Int.eq_ofNat_of_zero_le h2
  by_cases he : (d : Int) = 3 - s
  · left
    refine ⟨by unfold blockI; rw [if_pos he], fun n hn ⟨ha, hb⟩ => ?_⟩
    unfold where_ at ha
    split at ha <;> omega
  · right
    by_cases hlt : (3 : Int) - s < d
    · refine ⟨s * 3 + (d - 1), by omega, by unfold blockI; rw [if_neg he, if_pos hlt]; omega, by unfold where_; split <;> omega, by omega, fun n hn ⟨ha, hb⟩ => ?_⟩
      unfold where_ at ha
      split at ha <;> omega
    · refine ⟨s * 3 + d, by omega, by unfold blockI; rw [if_neg he, if_neg hlt]; omega, by unfold where_; split <;> omega, by omega, fun n hn ⟨ha, hb⟩ => ?_⟩
      unfold where_ at ha
      split at ha <;> omega
end Go.Proofs.YtdcmbdghnkgghaaDoor

namespace Go.Proofs.YtdcmbdghnkgghaaDoor
set_option linter.unusedVariables false
open Go Go.RowKit M

theorem cell_There (d s : Int) (w : World) :
    Calls Tryd.prog 64 #[.int .i64 d, .int .i64 s] w fun e w' => e = .returned (.bool (thereB d s)) ∧ w = w' := by
  by_cases h1 : 0 ≤ d
  · by_cases h2 : d < 4
    · by_cases h3 : 0 ≤ s
      · have hf : thereB d s = decide (s < 3) := by unfold thereB; simp [h1, h2, h3]
        have HF := Lib.hid hf
        clear hf
        go_enter Tryd.func64, Tryd.ntmps64
        go_wp2
        go_ret
        exact ⟨ret_bool HF.out.symm, rfl⟩
      · have hf : thereB d s = false := by unfold thereB; simp [h3]
        have HF := Lib.hid hf
        clear hf
        go_enter Tryd.func64, Tryd.ntmps64
        go_wp2
        go_ret
        exact ⟨ret_bool HF.out.symm, rfl⟩
    · have hf : thereB d s = false := by unfold thereB; simp [h2]
      have HF := Lib.hid hf
      clear hf
      go_enter Tryd.func64, Tryd.ntmps64
      go_wp2
      go_ret
      exact ⟨ret_bool HF.out.symm, rfl⟩
  · have hf : thereB d s = false := by unfold thereB; simp [h1]
    have HF := Lib.hid hf
    clear hf
    go_enter Tryd.func64, Tryd.ntmps64
    go_wp2
    go_ret
    exact ⟨ret_bool HF.out.symm, rfl⟩
set_option maxHeartbeats 400000 in
theorem cell_Bytes (d s : Nat) (x : Bs) (v : Value) (F : Fp) (w : World) (h : RdB w F v x) (hd : d < 256) (hs : s < 256) (hx : x.length ≤ 1000) :
    Calls Tryd.prog 76 #[.int .i64 d, .int .i64 s, v] w fun e w' => ∃ v', e = .returned v' ∧ Bld R8 5 w' w.heap.size (fun _ => True) v' (cellB d s x) ∧ Below w.heap.size w w' := by
  obtain ⟨A, c, rfl, _, _⟩ := h.shape
  have e1 : R8 w (fun _ => True) (.int .u8 d) (UInt8.ofNat d) := R8_of (by omega)
  have e2 : R8 w (fun _ => True) (.int .u8 s) (UInt8.ofNat s) := R8_of (by omega)
  have hown : Bld R8 5 (w.alloc (.cells #[.int .u8 d, .int .u8 s] 5)) w.heap.size (fun _ => True) (.slice (some ⟨w.heap.size, 0, none⟩) 2 2) [UInt8.ofNat d, UInt8.ofNat s] :=
    Bld.lit ok8 (us := [.int .u8 d, .int .u8 s]) (xs := [UInt8.ofNat d, UInt8.ofNat s]) 5 (Nat.le_refl _) rfl (by simp [maxLen]) fun j u x hu hx => by
      match j with
      | 0 => simp at hu hx; subst hu; subst hx; exact e1
      | 1 => simp at hu hx; subst hu; subst hx; exact e2
      | j + 2 => simp at hu
  have hsrc := okB.old h (below_alloc w (.cells #[.int .u8 d, .int .u8 s] 5)) (G := fun k => some k ≠ Value.ownBlock (.slice (some ⟨w.heap.size, 0, none⟩) 2 2) ∧ True) (by simp [Value.ownBlock]; omega)
  clear e1 e2 h
  go_enter Tryd.func76, Tryd.ntmps76
  go_wp2_with (at_builtin; refine wpList_append_bld _ rfl _ _ 22 rfl ok8 slB w.heap.size (fun _ => True) (.slice (some ⟨w.heap.size, 0, none⟩) 2 2) _ _ x rfl rfl hown hsrc ?c1 ?c2 ?c3)
  case c1 => simp; omega
  case c2 => simp
  case c3 =>
  intro v1 w1 hv1 hl1 _ _
  replace hl1 := (below_alloc w (.cells #[.int .u8 d, .int .u8 s] 5)).trans hl1
  have hr := hv1.toRd_ ok8
  have HZ := Lib.hid hl1.size
  clear hown hsrc hv1
  go_wp2_with fail
  refine (sum_Seal _ _ _ _ hr (by simp; omega)).mono ?_
  rintro e w2 ⟨v2, rfl, hv2, hb2⟩
  have hf := hv2.base_ HZ.out
  have hl2 := hl1.trans (hb2.mono HZ.out)
  clear hv2 hr
  go_wp2
  go_ret
  exact ⟨_, rfl, hf, hl2⟩
theorem read_cells {b : Bs} {A : Option Addr} {c : Nat} {w : World} {F : Fp} (h : RdB w F (.slice A 8 c) b) : ∃ bb off, A = some ⟨bb, off, none⟩ ∧ 8 ≤ c ∧ c ≤ maxLen ∧
    w.cell? ⟨bb, off, none⟩ = some (.int .u8 (at8 b 0)) ∧ w.cell? ⟨bb, off + 1, none⟩ = some (.int .u8 (at8 b 1)) ∧ RdB w F (.slice (some ⟨bb, off + 2, none⟩) 4 (c - 2)) ((b.drop 2).take 4) := by
  have hl := h.len
  obtain ⟨hc1, hc2⟩ := h.cap
  obtain ⟨bb, off, u, rfl, _, hu, hR⟩ := h.at_ (k := 0) (by omega)
  obtain ⟨bb', off', u', hA, _, hu', hR'⟩ := h.at_ (k := 1) (by omega)
  injection hA with hA
  injection hA with hA1 hA2
  subst hA1
  subst hA2
  cases hR
  cases hR'
  unfold B8 at hu hu'
  rw [← at8_get (by omega)] at hu hu'
  exact ⟨bb, off, rfl, hc1, hc2, hu, hu', h.part (i := 2) (j := 6) (by omega) (by omega) (c - 2) (by omega) (by omega)⟩
set_option maxHeartbeats 800000 in
theorem cell_Read (b : Bs) (d s : Int) (v : Value) (F : Fp) (w : World) (h : RdB w F v b) :
    Calls Tryd.prog 44 #[v, .int .i64 d, .int .i64 s] w fun e w' => ∃ v', e = .returned (.tuple #[v', .int .i64 (readC b d s).2]) ∧ Bld R8 5 w' w.heap.size (fun _ => True) v' (readC b d s).1 ∧ Below w.heap.size w w' := by
  obtain ⟨A, c, rfl, _, _⟩ := h.shape
  by_cases h8 : b.length = 8
  rotate_left
  · have hf : readC b d s = ([], 7) := by unfold readC; rw [if_pos (.inl h8)]
    rw [hf]
    have h8' : ((b.length : Int) != 8) = true := by simp; omega
    clear h8 hf
    go_enter Tryd.func44, Tryd.ntmps44
    go_wp2
    go_ret2
    exact ⟨_, rfl, Bld.nil_ _ _ _ _ _, Below.refl _ _⟩
  rw [h8] at h ⊢
  by_cases hse : sealedB b = true
  rotate_left
  · have hse' : sealedB b = false := by simpa using hse
    have hf : readC b d s = ([], 7) := by unfold readC; rw [if_pos (.inr hse')]
    rw [hf]
    have HS := Lib.hid hse'
    clear h8 hf hse hse'
    go_enter Tryd.func44, Tryd.ntmps44
    go_wp2_with (go_at_call 65; refine (sum_Sealed b _ F _ h).mono ?_; rintro e w' ⟨rfl, rfl⟩; rw [HS.out])
    go_ret2
    exact ⟨_, rfl, Bld.nil_ _ _ _ _ _, Below.refl _ _⟩
  obtain ⟨bb, off, rfl, hc1, hc2, hu0, hu1, hp⟩ := read_cells h
  have HS := Lib.hid hse
  have a0 := at8_lo b 0
  have a1 := at8_hi b 0
  have a2 := at8_lo b 1
  have a3 := at8_hi b 1
  by_cases h0 : at8 b 0 = d
  rotate_left
  · have hf : readC b d s = ([], 8) := by unfold readC; rw [if_neg (by simp [h8, hse]), if_pos (.inl h0)]
    rw [hf]
    have h0' : (at8 b 0 != d) = true := by simpa using h0
    clear h8 hf hse h0 hp
    go_enter Tryd.func44, Tryd.ntmps44
    go_wp2_with (go_at_call 65; refine (sum_Sealed b _ F _ h).mono ?_; rintro e w' ⟨rfl, rfl⟩; rw [HS.out])
    go_ret2
    exact ⟨_, rfl, Bld.nil_ _ _ _ _ _, Below.refl _ _⟩
  have h0' : (at8 b 0 != d) = false := by simpa using h0
  by_cases h1 : at8 b 1 = s
  rotate_left
  · have hf : readC b d s = ([], 8) := by unfold readC; rw [if_neg (by simp [h8, hse]), if_pos (.inr h1)]
    rw [hf]
    have h1' : (at8 b 1 != s) = true := by simpa using h1
    clear h8 hf hse h0 h1 hp
    go_enter Tryd.func44, Tryd.ntmps44
    go_wp2_with (go_at_call 65; refine (sum_Sealed b _ F _ h).mono ?_; rintro e w' ⟨rfl, rfl⟩; rw [HS.out])
    go_ret2
    exact ⟨_, rfl, Bld.nil_ _ _ _ _ _, Below.refl _ _⟩
  have h1' : (at8 b 1 != s) = false := by simpa using h1
  have hf : readC b d s = ((b.drop 2).take 4, 0) := by unfold readC; rw [if_neg (by simp [h8, hse]), if_neg (by simp [h0, h1])]
  rw [hf]
  have hpl : ((b.drop 2).take 4).length = 4 := by simp; omega
  have HPL := Lib.hid hpl
  clear h8 hf hse h0 h1 hpl
  have h2 := okB.mono hp (F' := fun k => some k ≠ Value.ownBlock (.slice none 0 0) ∧ True) (by simp [Value.ownBlock])
  clear hp
  have q1 : 2 ≤ c := by omega
  have q2 : 6 ≤ c := by omega
  unfold maxLen at hc2
  go_enter Tryd.func44, Tryd.ntmps44
  go_wp2_with (first | (go_at_call 65; refine (sum_Sealed b _ F _ h).mono ?_; rintro e w' ⟨rfl, rfl⟩; rw [HS.out]) | (at_builtin; refine wpList_append_bld _ rfl _ _ 22 rfl ok8 slB w.heap.size (fun _ => True) _ _ [] ((b.drop 2).take 4) rfl rfl (Bld.nil_ _ _ _ _ _) h2 ?c1 ?c2 ?c3))
  case c1 => rw [HPL.out]; decide
  case c2 => exact Nat.le_refl _
  case c3 =>
  intro v1 w1 hv1 hl1 _ _
  clear h2
  go_wp2
  go_ret2
  exact ⟨_, rfl, hv1, hl1⟩
end Go.Proofs.YtdcmbdghnkgghaaDoor

namespace Go.Proofs.YtdcmbdghnkgghaaDoor
set_option linter.unusedVariables false
open Go Go.RowKit M

set_option maxHeartbeats 400000 in
theorem clone_B (b : Bs) (v : Value) (F : Fp) (w : World) (h : RdB w F v b) (hb : b.length ≤ 1000) :
    Calls Tryd.prog 50 #[v] w fun e w' => ∃ v', e = .returned v' ∧ Bld R8 5 w' w.heap.size (fun _ => True) v' b ∧ Below w.heap.size w w' := by
  obtain ⟨A, c, rfl, _, _⟩ := h.shape
  have q : ∀ (w : World) (a : Option Addr) (n c n' c' : Nat), (binOp .eql 22 (.slice a n c) (.slice none n' c')).run Tryd.prog w = .ok (.bool a.isNone) w := fun w a n c n' c' => Lib.run_eql_slice_nil w _ _ a n c n' c' Tryd.underlying22
  cases A with
  | none =>
    have hn : b = [] := by
      rcases Nat.eq_zero_or_pos b.length with h0 | h0
      · exact List.eq_nil_of_length_eq_zero h0
      · obtain ⟨_, _, _, hA, _⟩ := h.at_ h0; cases hA
    subst hn
    go_enter Tryd.func50, Tryd.ntmps50
    go_wp2
    go_ret
    exact ⟨_, rfl, Bld.nil_ _ _ _ _ _, Below.refl _ _⟩
  | some a =>
    have hE := Bld.empty R8 5 w w.heap.size (fun _ => True) (Nat.le_refl _)
    have hsrc := (okB.old h (below_alloc w (.cells #[] 5)) (G := fun k => some k ≠ (Value.slice (some ⟨w.heap.size, 0, none⟩) 0 0).ownBlock ∧ True) fun k _ hk => ⟨by simp only [Value.ownBlock, ne_eq, Option.some.injEq]; omega, trivial⟩)
    have HB := Lib.hid hb
    clear h hb
    go_enter Tryd.func50, Tryd.ntmps50
    go_wp2_with (at_builtin; refine wpList_append_bld _ rfl _ _ 22 rfl ok8 slB w.heap.size (fun _ => True) _ _ [] b rfl rfl hE hsrc ?c1 ?c2 ?c3)
    case c1 => have := HB.out; simp; omega
    case c2 => exact (below_alloc w _).size
    case c3 =>
      intro v' w' hBld hBelow _ _
      go_wp2
      go_ret
      exact ⟨_, rfl, by simpa using hBld, (below_alloc w _).trans hBelow⟩
set_option maxHeartbeats 400000 in
theorem clone_BB_old (l : List Bs) (v : Value) (F : Fp) (w : World) (h : RdBB w F v l) (hb : l.length ≤ 1000) :
    Calls Tryd.prog 49 #[v] w fun e w' => ∃ v', e = .returned v' ∧ Bld RdB 22 w' w.heap.size (fun k => k < w.heap.size) v' l ∧ Below w.heap.size w w' := by
  obtain ⟨A, c, rfl, _, _⟩ := h.shape
  have q : ∀ (w : World) (a : Option Addr) (n c n' c' : Nat), (binOp .eql 38 (.slice a n c) (.slice none n' c')).run Tryd.prog w = .ok (.bool a.isNone) w := fun w a n c n' c' => Lib.run_eql_slice_nil w _ _ a n c n' c' Tryd.underlying38
  cases A with
  | none =>
    have hn : l = [] := by
      rcases Nat.eq_zero_or_pos l.length with h0 | h0
      · exact List.eq_nil_of_length_eq_zero h0
      · obtain ⟨_, _, _, hA, _⟩ := h.at_ h0; cases hA
    subst hn
    go_enter Tryd.func49, Tryd.ntmps49
    go_wp2
    go_ret
    exact ⟨_, rfl, Bld.nil_ _ _ _ _ _, Below.refl _ _⟩
  | some a =>
    have hE := Bld.empty RdB 22 w w.heap.size (fun k => k < w.heap.size) (Nat.le_refl _)
    have hsrc := (okBB.old h (below_alloc w (.cells #[] 22)) (G := fun k => some k ≠ (Value.slice (some ⟨w.heap.size, 0, none⟩) 0 0).ownBlock ∧ k < w.heap.size) fun k _ hk => ⟨by simp only [Value.ownBlock, ne_eq, Option.some.injEq]; omega, hk⟩)
    have HB := Lib.hid hb
    clear h hb
    go_enter Tryd.func49, Tryd.ntmps49
    go_wp2_with (at_builtin; refine wpList_append_bld _ rfl _ _ 38 rfl okB slBB w.heap.size (fun k => k < w.heap.size) _ _ [] l rfl rfl hE hsrc ?c1 ?c2 ?c3)
    case c1 => have := HB.out; simp; omega
    case c2 => exact (below_alloc w _).size
    case c3 =>
      intro v' w' hBld hBelow _ _
      go_wp2
      go_ret
      exact ⟨_, rfl, by simpa using hBld, (below_alloc w _).trans hBelow⟩
theorem clone_BB (l : List Bs) (v : Value) (F : Fp) (w : World) (h : RdBB w F v l) (hb : l.length ≤ 1000) :
    Calls Tryd.prog 49 #[v] w fun e w' => ∃ v', e = .returned v' ∧ Bld RdB 22 w' w.heap.size (fun _ => True) v' l ∧ Below w.heap.size w w' :=
  (clone_BB_old l v F w h hb).mono fun _ _ ⟨v', h1, h2, h3⟩ => ⟨v', h1, h2.mono okB fun _ _ _ => trivial, h3⟩
set_option maxHeartbeats 400000 in
theorem equal_B (a b : Bs) (va vb : Value) (F : Fp) (w : World) (ha : RdB w F va a) (hb : RdB w F vb b) :
    Calls Tryd.prog 48 #[va, vb] w fun e w' => e = .returned (.bool (a == b)) ∧ Below w.heap.size w w' := by
  obtain ⟨A, ca, rfl, _, hm⟩ := ha.shape
  obtain ⟨B, cb, rfl, _, _⟩ := hb.shape
  by_cases hl : a.length = b.length
  · have hlb : ((a.length : Int) == (b.length : Int)) = true := by rw [hl]; exact beq_self_eq_true _
    have HL := Lib.hid hl
    rw [← hl] at hb ⊢
    clear hl hlb
    unfold maxLen at hm
    go_enter Tryd.func48, Tryd.ntmps48
    go_wp2
    go_loopw [13] (fun i wr => ∃ k : Nat, k ≤ a.length ∧ i = .int .i64 k ∧ (∀ j, j < k → at8 a j = at8 b j) ∧ Below w.heap.size w wr) (fun i _ => a.length - (intOf i).toNat)
    case atStart => exact ⟨0, Nat.zero_le _, rfl, fun j hj => by omega, Below.refl _ _⟩
    case round =>
      obtain ⟨k, hk, rfl, hpre, hlw⟩ := hrel
      have HP := Lib.hid hpre
      clear hpre
      by_cases hlt : k < a.length
      · obtain ⟨ba, oa, u, rfl, _, hu, hR⟩ := (okB.grow ha hlw).at_ (k := k) hlt
        cases hR
        have hltb : k < b.length := by rw [← HL.out]; exact hlt
        obtain ⟨bb, ob, u2, rfl, _, hu2, hR⟩ := (okB.grow hb hlw).at_ (k := k) hltb
        cases hR
        unfold B8 at hu hu2
        rw [← at8_get hlt] at hu
        rw [← at8_get hltb] at hu2
        by_cases he : at8 a k = at8 b k
        · have HE := Lib.hid he
          rw [← he] at hu2
          clear he ha hb hltb
          go_wp2
          go_region
          go_wp2
          go_roundw
          case rel => exact ⟨k + 1, by omega, by go_num, fun j hj => by rcases Nat.lt_succ_iff_lt_or_eq.1 hj with h | rfl; exact HP.out j h; exact HE.out, hlw.drew⟩
          case measure => simp [intOf]; omega
        · have heb : (at8 a k == at8 b k) = false := beq_false_of_ne he
          have hne : (a == b) = false := beq_false_of_ne fun e => he (by rw [e])
          have HN := Lib.hid hne
          clear he ha hb hltb hne
          go_wp2
          go_region
          go_wp2
          go_ret
          exact ⟨ret_bool HN.out.symm, hlw.drew⟩
      · go_wp2
        obtain rfl : k = a.length := by omega
        go_ret
        refine ⟨ret_bool ?_, hlw⟩
        have : a = b := at8_ext HL.out HP.out
        subst this
        simp
  · have hlb : (a.length == b.length) = false := beq_false_of_ne hl
    have hne : (a == b) = false := beq_false_of_ne fun e => hl (by rw [e])
    have hli : ((a.length : Int) == (b.length : Int)) = false := beq_false_of_ne fun e => hl (by omega)
    rw [hne]
    clear hl hne hlb ha hb
    go_enter Tryd.func48, Tryd.ntmps48
    go_wp2
    go_ret
    exact ⟨rfl, Below.refl _ _⟩
theorem take_all {α : Type} {a b : List α} (hl : a.length = b.length) (h : ∀ j, j < a.length → a[j]? = b[j]?) : a = b := by
  apply List.ext_getElem? 
  intro j
  by_cases hj : j < a.length
  · exact h j hj
  · rw [List.getElem?_eq_none (by omega), List.getElem?_eq_none (by omega)]
set_option maxHeartbeats 400000 in
theorem equalFunc_BB (a b : List Bs) (va vb : Value) (F : Fp) (w : World) (ha : RdBB w F va a) (hb : RdBB w F vb b) :
    Calls Tryd.prog 47 #[va, vb, .func (.func 48) #[] #[]] w fun e w' => e = .returned (.bool (a == b)) ∧ Below w.heap.size w w' := by
  obtain ⟨A, ca, rfl, _, hm⟩ := ha.shape
  obtain ⟨B, cb, rfl, _, _⟩ := hb.shape
  by_cases hl : a.length = b.length
  · have HL := Lib.hid hl
    rw [← hl] at hb ⊢
    clear hl
    unfold maxLen at hm
    go_enter Tryd.func47, Tryd.ntmps47
    go_wp2
    go_loopw [17] (fun i wr => ∃ k : Nat, k ≤ a.length ∧ i = .int .i64 k ∧ (∀ j, j < k → a[j]? = b[j]?) ∧ Below w.heap.size w wr) (fun i _ => a.length - (intOf i).toNat)
    case atStart => exact ⟨0, Nat.zero_le _, rfl, fun j hj => by omega, Below.refl _ _⟩
    case round =>
      obtain ⟨k, hk, rfl, hpre, hlw⟩ := hrel
      have HP := Lib.hid hpre
      clear hpre
      by_cases hlt : k < a.length
      · obtain ⟨ba, oa, u, rfl, _, hu, hR⟩ := (okBB.grow ha hlw).at_ (k := k) hlt
        have hltb : k < b.length := by rw [← HL.out]; exact hlt
        obtain ⟨bb, ob, u2, rfl, _, hu2, hR2⟩ := (okBB.grow hb hlw).at_ (k := k) hltb
        have hcall := Lib.hid fun w' (h : Below wr.heap.size wr w') => equal_B a[k] b[k] u u2 F w' (okB.grow hR h) (okB.grow hR2 h)
        clear hR hR2 ha hb
        by_cases he : a[k] = b[k]
        · rw [he] at hcall
          simp only [beq_self_eq_true] at hcall
          have HE := Lib.hid he
          have hsz := Lib.hid hlw.size
          clear he
          go_wp2_with (go_at_call 48; refine (hcall.out _ (Below.refl _ _)).mono ?_; rintro e w' ⟨rfl, hb'⟩)
          have hl2 := hlw.trans (hb'.mono hsz.out)
          go_roundw
          case rel => exact ⟨k + 1, by omega, by go_num, fun j hj => by rcases Nat.lt_succ_iff_lt_or_eq.1 hj with h | rfl; exact HP.out j h; rw [List.getElem?_eq_getElem hlt, List.getElem?_eq_getElem hltb, HE.out], hl2⟩
          case measure => simp [intOf]; omega
        · rw [beq_false_of_ne he] at hcall
          have HN := Lib.hid (show (a == b) = false from beq_false_of_ne fun e => he (by subst e; rfl))
          have hsz := Lib.hid hlw.size
          clear he
          go_wp2_with (go_at_call 48; refine (hcall.out _ (Below.refl _ _)).mono ?_; rintro e w' ⟨rfl, hb'⟩)
          go_ret
          exact ⟨ret_bool HN.out.symm, hlw.trans (hb'.mono hsz.out)⟩
      · go_wp2
        obtain rfl : k = a.length := by omega
        go_ret
        refine ⟨ret_bool ?_, hlw⟩
        have : a = b := take_all HL.out HP.out
        subst this
        simp
  · have hne : (a == b) = false := beq_false_of_ne fun e => hl (by rw [e])
    have hli : ((a.length : Int) == (b.length : Int)) = false := beq_false_of_ne fun e => hl (by omega)
    rw [hne]
    clear hl hne ha hb
    go_enter Tryd.func47, Tryd.ntmps47
    go_wp2
    go_ret
    exact ⟨rfl, Below.refl _ _⟩
theorem model_Same (a b : List Bs) (va vb : Value) (F : Fp) (w : World) (ha : RdBB w F va a) (hb : RdBB w F vb b) :
    Calls Tryd.prog 22 #[va, vb] w fun e w' => e = .returned (.bool (a == b)) ∧ Below w.heap.size w w' := by
  have H := Lib.hid (equalFunc_BB a b va vb F w ha hb)
  obtain ⟨A, ca, rfl, _, _⟩ := ha.shape
  obtain ⟨B, cb, rfl, _, _⟩ := hb.shape
  clear ha hb
  go_enter Tryd.func22, Tryd.ntmps22
  go_wp2_with (go_at_call 47; refine H.out.mono ?_; rintro e w' ⟨rfl, hb'⟩)
  go_ret
  exact ⟨rfl, hb'⟩
end Go.Proofs.YtdcmbdghnkgghaaDoor

namespace Go.Proofs.YtdcmbdghnkgghaaDoor
set_option linter.unusedVariables false
open Go Go.RowKit M
/-- A deed, as a value. -/
def RdD (w : World) (F : Fp) (v : Value) (d : Deed) : Prop := ∃ dv, v = .agg #[.int .i64 d.kind, .int .i64 d.n, .int .i64 d.m, dv] ∧ RdB w F dv d.data
theorem wrong_there (n : Int) (w : World) :
    Calls Tryd.prog 46 #[.int .i64 n] w fun e w' => e = .returned (.bool (decide (0 ≤ n) && decide (n < 9))) ∧ w = w' := by
  by_cases h0 : 0 ≤ n <;> by_cases h1 : n < 9
  all_goals
    go_enter Tryd.func46, Tryd.ntmps46
    go_wp2
    all_goals (go_ret; exact ⟨ret_bool (by simp [*]), rfl⟩)
set_option maxHeartbeats 400000 in
theorem model_Wrong (d : Deed) (v : Value) (F : Fp) (w : World) (h : RdD w F v d) :
    Calls Tryd.prog 20 #[v] w fun e w' => e = .returned (.int .i64 (wrongI d)) ∧ Below w.heap.size w w' := by
  obtain ⟨dv, rfl, hd⟩ := h
  obtain ⟨A, c, rfl, _, _⟩ := hd.shape
  clear hd
  go_enter Tryd.func20, Tryd.ntmps20
  go_wp2_with (go_at_call 46; refine (wrong_there _ _).mono ?_; rintro e w' ⟨rfl, rfl⟩)
  all_goals (go_ret; refine ⟨ret_int ?_, by first | exact below_alloc _ _ | exact (below_alloc _ _).drew⟩)
  all_goals (simp only [beq_iff_eq, bne_iff_ne, beq_eq_false_iff_ne, bne_eq_false_iff_eq, ne_eq] at *; unfold wrongI; (repeat' split) <;> first | rfl | omega)
def whS (n : Int) : Int := if InB n then n / 3 else 0
def whD' (n : Int) : Int := if InB n then ((where_ n.toNat : Nat) : Int) else 0
def whE (n : Int) : Int := if InB n then 0 else 3
theorem wh_cases (n : Int) : (0 ≤ n ∧ n < 9 ∧ whE n = 0 ∧ whS n = n / 3) ∨ ((n < 0 ∨ 9 ≤ n) ∧ whE n = 3 ∧ whS n = 0) := by
  unfold whE whS
  by_cases h : InB n
  · rw [if_pos h, if_pos h]; omega
  · rw [if_neg h, if_neg h]; omega
theorem ref_Where_any (n : Int) (w : World) :
    Calls Tryd.prog 32 #[.int .i64 n] w fun e w' => e = .returned (.tuple #[.int .i64 (whD' n), .int .i64 (whS n), .int .i64 (whE n)]) ∧ Below w.heap.size w w' := by
  by_cases h : InB n
  · obtain ⟨k, rfl⟩ : ∃ k : Nat, n = k := ⟨n.toNat, by omega⟩
    have := ref_Where k w (by omega)
    unfold whS whD' whE
    rw [if_pos h, if_pos h, if_pos h]
    simpa using this
  · have := ref_Where_no n w (by omega)
    unfold whS whD' whE
    rw [if_neg h, if_neg h, if_neg h]
    exact this
set_option maxHeartbeats 400000 in
theorem ref_Wrong (d : Deed) (v : Value) (F : Fp) (w : World) (h : RdD w F v d) :
    Calls Tryd.prog 12 #[v] w fun e w' => e = .returned (.int .i64 (wrongI d)) ∧ Below w.heap.size w w' := by
  obtain ⟨dv, rfl, hd⟩ := h
  obtain ⟨A, c, rfl, _, _⟩ := hd.shape
  clear hd
  have hnew := Lib.hid (boxed4_new w (.int .i64 d.kind) (.int .i64 d.n) (.int .i64 d.m) (.slice A d.data.length c) 24)
  have hnb := Lib.hid (below_alloc w (.cells #[.int .i64 d.kind, .int .i64 d.n, .int .i64 d.m, .slice A d.data.length c] 24))
  go_enter Tryd.func12, Tryd.ntmps12
  go_wp2_with fail
  all_goals try (
    refine (ref_Where_any _ _).mono ?_
    rintro e w1 ⟨rfl, hb1⟩
    have hx1 := Lib.hid (Boxed4.keep hnew.out hb1 hnew.out.lt)
    have hnb1 := Lib.hid (Below.trans hnb.out (hb1.mono hnb.out.size))
    obtain ⟨k0, k1, k2, k3, _⟩ := id hx1.out
    go_wp2_with fail
    refine (ref_Where_any _ _).mono ?_
    rintro e w2 ⟨rfl, hb2⟩
    have hx2 := Lib.hid (Boxed4.keep hx1.out hb2 hx1.out.lt)
    have hnb2 := Lib.hid (Below.trans hnb1.out (hb2.mono hnb1.out.size))
    clear k0 k1 k2 k3 hb1 hb2
    obtain ⟨k0, k1, k2, k3, _⟩ := id hx2.out
    go_wp2_with fail)
  all_goals (go_ret; refine ⟨ret_int ?_, by first | exact below_alloc _ _ | exact hnb2.out⟩)
  all_goals have hwn := wh_cases d.n
  all_goals have hwm := wh_cases d.m
  all_goals ((try simp only [bne_iff_ne, beq_eq_false_iff_ne, bne_eq_false_iff_eq, ne_eq] at *); unfold wrongI; (repeat' split) <;> first | rfl | omega)
theorem newB_take (k : Nat) (h : k < 9) : newB.take k ++ [zero4] = newB.take (k + 1) := by
  unfold newB
  rw [List.take_replicate, List.take_replicate, Nat.min_eq_left (by omega), Nat.min_eq_left (by omega), List.replicate_succ']
theorem mk4_rd (w : World) (F : Fp) (hF : F w.heap.size) : RdB (w.alloc (.cells #[.int .u8 0, .int .u8 0, .int .u8 0, .int .u8 0] 5)) F (.slice (some ⟨w.heap.size, 0, none⟩) 4 4) zero4 :=
  RdL.new_ ok8 (us := zero4.map B8) (xs := zero4) 5 rfl (by decide) hF fun j u x hu hx => by
    simp at hu
    obtain ⟨c, hc, rfl⟩ := hu
    rw [hc] at hx
    injection hx with hx
    subst hx
    rfl
end Go.Proofs.YtdcmbdghnkgghaaDoor

namespace Go.Proofs.YtdcmbdghnkgghaaDoor
set_option linter.unusedVariables false
open Go Go.RowKit M
/-- Blocks as they must be. -/
def rightB (l : List Bs) : Bool := l.all (fun b => b.length == 4) && l.length == 9
end Go.Proofs.YtdcmbdghnkgghaaDoor

namespace Go.Proofs.YtdcmbdghnkgghaaDoor
set_option linter.unusedVariables false
open Go Go.RowKit M
set_option maxRecDepth 100000 in
set_option maxHeartbeats 400000 in
theorem model_Do_write (l : List Bs) (d : Deed) (v vd : Value) (F : Fp) (w : World) (h : RdBB w F v l) (hd : RdD w F vd d) (hl : l.length = 9) (hr : wrongI d = 0) (hk : d.kind = 1) :
    Calls Tryd.prog 23 #[v, vd] w fun e w' => ∃ v', e = .returned v' ∧ Bld RdB 22 w' w.heap.size (fun _ => True) v' (doD l d) ∧ Below w.heap.size w w' := by
  obtain ⟨⟨n0, n1⟩, hq⟩ := wrong_ok hr
  have hdl : d.data.length = 4 := by omega
  obtain ⟨n, hn⟩ : ∃ n : Nat, d.n = n := ⟨d.n.toNat, by omega⟩
  have hdo : doD l d = l.set n d.data := by unfold doD; rw [if_pos hk, hn]; simp
  rw [hdo]
  have hn9 : n < 9 := by omega
  obtain ⟨dv, rfl, hdv⟩ := hd
  rw [hk, hn]
  obtain ⟨A, c, rfl, _, _⟩ := h.shape
  obtain ⟨Ad, cd, rfl, _, _⟩ := hdv.shape
  have hnew := Lib.hid (boxed4_new w (.int .i64 1) (.int .i64 n) (.int .i64 d.m) (.slice Ad d.data.length cd) 24)
  have hnb := Lib.hid (below_alloc w (.cells #[.int .i64 1, .int .i64 n, .int .i64 d.m, .slice Ad d.data.length cd] 24))
  have HL := Lib.hid hl
  have HDL := Lib.hid hdl
  clear hdo hq hr hk hn n0 n1 hl hdl
  go_enter Tryd.func23, Tryd.ntmps23
  go_wp2_with fail
  refine (clone_BB l _ F _ (okBB.grow h hnb.out) (by have := HL.out; omega)).mono ?_
  rintro e w1 ⟨v1, rfl, hO, hb1⟩
  have hx1 := Lib.hid (Boxed4.keep hnew.out hb1 hnew.out.lt)
  have hnb1 := Lib.hid (Below.trans hnb.out (hb1.mono hnb.out.size))
  rw [alloc_size] at hO hb1
  have hdv1 := okB.old hdv hnb1.out (G := fun k => k < w.heap.size) fun _ _ hk => hk
  obtain ⟨g, c1, rfl, hg0, hg1, hc1, hc2⟩ := hO.form (by rw [HL.out]; omega)
  rw [HL.out] at hO hc1 ⊢
  have hOI : Hid (Bld RdB 22 w1 (w.heap.size + 1) (fun _ => True) (.slice (some ⟨g, 0, none⟩) 9 c1) l) := hO
  clear hO h hdv
  obtain ⟨k0, k1, k2, k3, _⟩ := id hx1.out
  go_wp2_with fail
  clear k0 k1 k2 k3
  refine region_three (w.heap.size + 1) [Ck (.slice (some ⟨g, 0, none⟩) 9 c1), Ck (.pointer (some ⟨w.heap.size, 1, none⟩)), Ck (.int .i64 n), Ck (.pointer (some ⟨w.heap.size, 3, none⟩)), Ck (.slice Ad d.data.length cd), Ek 0 (Rn RdB g d.data), Ck (.pointer (some ⟨g, n, none⟩)), Tk] (fun m wx => Bld RdB 22 wx (w.heap.size + 1) (fun _ => True) (.slice (some ⟨g, 0, none⟩) 9 c1) (if m = 0 then l else l.set n d.data)) [7] (by kernel_rfl) (by kernel_rfl) (by kernel_rfl) (by kernel_rfl) (by kernel_rfl) ?_ ?_ (fun m w w' hb h => h.grow okB hb) (hOI.out) ?_ ?_
  · first | exact Nat.le_refl _ | assumption | omega
  · repeat (first | exact trivial | refine ⟨mCk _, ?_⟩ | refine ⟨mTk, ?_⟩ | refine ⟨mEk _ (by first | exact mC _ | exact mT | exact mR okB _ | exact mR okBB _ | exact mR okBBB _ | exact mRn okB _ _ | exact mRn okBB _ _ | exact mOw _ _ _ _ | exact mRm okB _ _ _ | exact mRa _ _ | exact mRg okROW _ _ | exact mRg okROWS _ _ | exact mRf okDISKS _ _ | exact mRg okCELL _ _ | exact mRg okBB _ _ | exact mRg okB _ _ | exact mRg okIs _ _ | exact mRi _ _ | exact mOx _ _), ?_⟩ | refine ⟨mFk _ (by first | exact mC _ | exact mT | exact mR okB _ | exact mR okBB _ | exact mR okBBB _ | exact mRn okB _ _ | exact mRn okBB _ _ | exact mOw _ _ _ _ | exact mRm okB _ _ _ | exact mRa _ _ | exact mRg okROW _ _ | exact mRg okROWS _ _ | exact mRf okDISKS _ _ | exact mRg okCELL _ _ | exact mRg okBB _ _ | exact mRg okB _ _ | exact mRg okIs _ _ | exact mRi _ _ | exact mOx _ _), ?_⟩ | refine ⟨fun _ => (by first | exact mC _ | exact mT | exact mR okB _ | exact mR okBB _ | exact mR okBBB _ | exact mRn okB _ _ | exact mRn okBB _ _ | exact mOw _ _ _ _ | exact mRm okB _ _ _ | exact mRa _ _ | exact mRg okROW _ _ | exact mRg okROWS _ _ | exact mRf okDISKS _ _ | exact mRg okCELL _ _ | exact mRg okBB _ _ | exact mRg okB _ _ | exact mRg okIs _ _ | exact mRi _ _ | exact mOx _ _), ?_⟩)
  · simp only [StepsL3]
    refine ⟨?_, ?_, ?_, ?_, ?_, ?_, ?_, ?_, trivial⟩
    · refine @id (StepG _ _ _ _ _ _ _ _ _ _ _) ?_
      intro nst ys wx hn hmay hw hS hd
      intro K hK
      simp only [putL, Act.put, List.setIfInBounds_toArray, List.set_cons_zero, List.set_cons_succ, Nat.zero_add, Nat.reduceAdd] at hK ⊢
      rw [if_pos (by rfl)]
      go_simp
      exact hK _ _ (Below.refl _ _) rfl
    · refine @id (StepG _ _ _ _ _ _ _ _ _ _ _) ?_
      intro nst ys wx hn hmay hw hS hd
      intro K hK
      simp only [putL, Act.put, List.setIfInBounds_toArray, List.set_cons_zero, List.set_cons_succ, Nat.zero_add, Nat.reduceAdd] at hK ⊢
      rw [if_pos (by rfl)]
      go_simp
      exact hK _ _ (Below.refl _ _) rfl
    · refine @id (StepG _ _ _ _ _ _ _ _ _ _ _) ?_
      intro nst ys wx hn hmay hw hS hd
      intro K hK
      have e1 : ys 1 = _ := hd 1 (by decide)
      simp only [putL, Act.put, List.setIfInBounds_toArray, List.set_cons_zero, List.set_cons_succ, Nat.zero_add, Nat.reduceAdd, e1] at hK ⊢
      rw [if_pos (by rfl)]
      have kx := (hx1.out.keep hw (Nat.lt_succ_self _)).c1
      go_simp
      exact hK _ _ (Below.refl _ _) rfl
    · refine @id (StepG _ _ _ _ _ _ _ _ _ _ _) ?_
      intro nst ys wx hn hmay hw hS hd
      intro K hK
      simp only [putL, Act.put, List.setIfInBounds_toArray, List.set_cons_zero, List.set_cons_succ, Nat.zero_add, Nat.reduceAdd] at hK ⊢
      rw [if_pos (by rfl)]
      go_simp
      exact hK _ _ (Below.refl _ _) rfl
    · refine @id (StepG _ _ _ _ _ _ _ _ _ _ _) ?_
      intro nst ys wx hn hmay hw hS hd
      intro K hK
      have e3 : ys 3 = _ := hd 3 (by decide)
      simp only [putL, Act.put, List.setIfInBounds_toArray, List.set_cons_zero, List.set_cons_succ, Nat.zero_add, Nat.reduceAdd, e3] at hK ⊢
      rw [if_pos (by rfl)]
      have kx := (hx1.out.keep hw (Nat.lt_succ_self _)).c3
      go_simp
      exact hK _ _ (Below.refl _ _) rfl
    · refine @id (StepG _ _ _ _ _ _ _ _ _ _ _) ?_
      intro nst ys wx hn hmay hw hS hd
      obtain rfl : nst = 0 := may_one hmay hn (by kernel_rfl)
      intro K hK
      have e4 : ys 4 = _ := hd 4 (by decide)
      simp only [putL, Act.put, List.setIfInBounds_toArray, List.set_cons_zero, List.set_cons_succ, Nat.zero_add, Nat.reduceAdd, e4] at hK ⊢
      rw [if_pos (by rfl)]
      go_simp
      refine (clone_B d.data _ _ _ (okB.below hdv1 hw fun k hk _ => Nat.lt_succ_of_lt hk) (by have := HDL.out; omega)).mono ?_
      rintro e w' ⟨v', rfl, hv', hb'⟩
      have hgx := (hS.blk g rfl).2
      exact hK _ _ hb' (okB.lt ((hv'.bytes (G' := fun k => wx.heap.size ≤ k)).toRd ok8 (F := fun k => wx.heap.size ≤ k) (fun k hk => hk) (fun k hk => hk)) |> fun h => okB.mono h fun k hk => ⟨by omega, hk.2⟩)
    · refine @id (StepG _ _ _ _ _ _ _ _ _ _ _) ?_
      intro nst ys wx hn hmay hw hS hd
      intro K hK
      have e0 : ys 0 = _ := hd 0 (by decide)
      have e2 : ys 2 = _ := hd 2 (by decide)
      simp only [putL, Act.put, List.setIfInBounds_toArray, List.set_cons_zero, List.set_cons_succ, Nat.zero_add, Nat.reduceAdd, e0, e2] at hK ⊢
      rw [if_pos (by rfl)]
      have q1 : (n : Int) < 9 := by omega
      have q0 : (0 : Int) ≤ n := by omega
      have q2 : (n : Int).toNat = n := by omega
      go_simp
      exact hK _ _ (Below.refl _ _) rfl
    · refine @id (StepS _ _ _ _ _ _ _ _ _ _ _) ?_
      intro ys wx hw hS hd K hK
      have k5 := hd 5 (by decide)
      change (Rn RdB g d.data) wx (ys 5) at k5
      have e6 : ys 6 = _ := hd 6 (by decide)
      simp only [putL, Act.put, List.setIfInBounds_toArray, List.set_cons_zero, List.set_cons_succ, Nat.zero_add, Nat.reduceAdd, e6] at hK ⊢
      rw [if_pos (by rfl)]
      have hS0 : Bld RdB 22 wx (w.heap.size + 1) (fun _ => True) (.slice (some ⟨g, 0, none⟩) 9 c1) l := hS
      have hnl : n < l.length := by have := HL.out; omega
      obtain ⟨u, hu, hfz, _⟩ := hS0.at_ hnl
      have hset := hS0.set_ okB hnl (u := ys 5) (x := d.data) (okB.mono k5 fun k hk => ⟨hk.1, trivial⟩)
      have hbs := (Below.refl (w.heap.size + 1) wx).setCell (p := ⟨g, n, none⟩) hg0 (ys 5)
      have h1c := okB.one k5
      generalize ys 5 = y5 at *
      obtain ⟨A5, c5, rfl, _, _⟩ := RdL.shape k5
      clear k5 h1c
      go_simp
      exact hK undef _ hbs hset trivial ⟨fun _ h => h, fun _ h => h, fun _ h => h, fun _ h => h, fun _ h => h, fun _ _ => trivial, fun _ h => h, fun _ h => h, trivial⟩
  · intro ys w' hl' hS' hV
    clear hV
    simp only [putL, Act.put, List.setIfInBounds_toArray, List.set_cons_zero, List.set_cons_succ, Nat.zero_add, Nat.reduceAdd]
    have hfin : Bld RdB 22 w' (w.heap.size + 1) (fun _ => True) (.slice (some ⟨g, 0, none⟩) 9 c1) (l.set n d.data) := hS'
    have HF := Lib.hid (hfin.base_ (b := w.heap.size) (Nat.le_succ _))
    have HBl := Lib.hid (hnb1.out.trans (hl'.mono (Nat.le_succ _)))
    clear hfin hS' hl'
    go_wp2
    go_ret
    exact ⟨_, rfl, HF.out, HBl.out⟩
end Go.Proofs.YtdcmbdghnkgghaaDoor

namespace Go.Proofs.YtdcmbdghnkgghaaDoor
set_option linter.unusedVariables false
open Go Go.RowKit M
set_option maxRecDepth 100000 in
set_option maxHeartbeats 400000 in
theorem model_Do_swap (l : List Bs) (d : Deed) (v vd : Value) (F : Fp) (w : World) (h : RdBB w F v l) (hd : RdD w F vd d) (hl : l.length = 9) (hr : wrongI d = 0) (hk : d.kind = 2) :
    Calls Tryd.prog 23 #[v, vd] w fun e w' => ∃ v', e = .returned v' ∧ Bld RdB 22 w' w.heap.size (fun _ => True) v' (doD l d) ∧ Below w.heap.size w w' := by
  obtain ⟨⟨n0, n1⟩, hq⟩ := wrong_ok hr
  obtain ⟨m0, m1⟩ : InB d.m := by omega
  obtain ⟨n, hn⟩ : ∃ n : Nat, d.n = n := ⟨d.n.toNat, by omega⟩
  obtain ⟨m, hm⟩ : ∃ m : Nat, d.m = m := ⟨d.m.toNat, by omega⟩
  have hnl : n < l.length := by omega
  have hml : m < l.length := by omega
  obtain ⟨ln, hln⟩ : ∃ x, x = l[n] := ⟨_, rfl⟩
  obtain ⟨lm, hlm⟩ : ∃ x, x = l[m] := ⟨_, rfl⟩
  have hdo : doD l d = (l.set n lm).set m ln := by unfold doD; rw [if_neg (by omega), hn, hm, hln, hlm]; simp [List.getD, hnl, hml]
  rw [hdo]
  have hn9 : n < 9 := by omega
  have hm9 : m < 9 := by omega
  obtain ⟨dv, rfl, hdv⟩ := hd
  rw [hk, hn, hm]
  obtain ⟨A, c, rfl, _, _⟩ := h.shape
  obtain ⟨Ad, cd, rfl, _, _⟩ := hdv.shape
  have hnew := Lib.hid (boxed4_new w (.int .i64 2) (.int .i64 n) (.int .i64 m) (.slice Ad d.data.length cd) 24)
  have hnb := Lib.hid (below_alloc w (.cells #[.int .i64 2, .int .i64 n, .int .i64 m, .slice Ad d.data.length cd] 24))
  have HL := Lib.hid hl
  clear hdo hq hr hk hn n0 n1 m0 m1 hm hl hdv
  go_enter Tryd.func23, Tryd.ntmps23
  go_wp2_with fail
  refine (clone_BB_old l _ F _ (okBB.grow h hnb.out) (by have := HL.out; omega)).mono ?_
  rintro e w1 ⟨v1, rfl, hO, hb1⟩
  have hx1 := Lib.hid (Boxed4.keep hnew.out hb1 hnew.out.lt)
  have hnb1 := Lib.hid (Below.trans hnb.out (hb1.mono hnb.out.size))
  rw [alloc_size] at hO hb1
  obtain ⟨g, c1, rfl, hg0, hg1, hc1, hc2⟩ := hO.form (by omega)
  rw [HL.out] at hO hc1 ⊢
  obtain ⟨un, hun, _, hRn⟩ := hO.at_ hnl
  obtain ⟨um, hum, _, hRm⟩ := hO.at_ hml
  obtain ⟨An, cn, rfl, _, _⟩ := hRn.shape
  obtain ⟨Am, cm, rfl, _, _⟩ := hRm.shape
  rw [← hln] at hRn hun
  rw [← hlm] at hRm hum
  clear hln hlm
  have hOI : Hid (Bld RdB 22 w1 (w.heap.size + 1) (fun _ => True) (.slice (some ⟨g, 0, none⟩) 9 c1) l) := hO.mono okB fun _ _ _ => trivial
  have HUN := Lib.hid hun
  have HUM := Lib.hid hum
  clear hO h hun hum
  obtain ⟨k0, k1, k2, k3, _⟩ := id hx1.out
  go_wp2_with fail
  clear k0 k1 k2 k3
  refine region_three (w.heap.size + 1) [Ck (.slice (some ⟨g, 0, none⟩) 9 c1), Ck (.pointer (some ⟨w.heap.size, 1, none⟩)), Ck (.int .i64 n), Ck (.slice (some ⟨g, 0, none⟩) 9 c1), Ck (.pointer (some ⟨w.heap.size, 2, none⟩)), Ck (.int .i64 m), Ck (.slice (some ⟨g, 0, none⟩) 9 c1), Ck (.pointer (some ⟨w.heap.size, 2, none⟩)), Ck (.int .i64 m), Ck (.pointer (some ⟨g, m, none⟩)), Ck (.slice Am lm.length cm), Ck (.slice (some ⟨g, 0, none⟩) 9 c1), Ck (.pointer (some ⟨w.heap.size, 1, none⟩)), Ck (.int .i64 n), Ck (.pointer (some ⟨g, n, none⟩)), Ck (.slice An ln.length cn), Ck (.pointer (some ⟨g, n, none⟩)), Tk, Ck (.pointer (some ⟨g, m, none⟩)), Tk] (fun q wx => Bld RdB 22 wx (w.heap.size + 1) (fun _ => True) (.slice (some ⟨g, 0, none⟩) 9 c1) (if q = 0 then l else if q = 1 then l.set n lm else (l.set n lm).set m ln) ∧ (q = 0 → wx.cell? ⟨g, n, none⟩ = some (.slice An ln.length cn) ∧ wx.cell? ⟨g, m, none⟩ = some (.slice Am lm.length cm))) [17, 19] (by kernel_rfl) (by kernel_rfl) (by kernel_rfl) (by kernel_rfl) (by kernel_rfl) ?_ ?_ (fun q w w' hb h => ⟨h.1.grow okB hb, fun hq => ⟨(hb.cell (h.1.blk g rfl).2).trans (h.2 hq).1, (hb.cell (h.1.blk g rfl).2).trans (h.2 hq).2⟩⟩) (⟨hOI.out, fun _ => ⟨HUN.out, HUM.out⟩⟩) ?_ ?_
  · first | exact Nat.le_refl _ | assumption | omega
  · repeat (first | exact trivial | refine ⟨mCk _, ?_⟩ | refine ⟨mTk, ?_⟩ | refine ⟨mEk _ (by first | exact mC _ | exact mT | exact mR okB _ | exact mR okBB _ | exact mR okBBB _ | exact mRn okB _ _ | exact mRn okBB _ _ | exact mOw _ _ _ _ | exact mRm okB _ _ _ | exact mRa _ _ | exact mRg okROW _ _ | exact mRg okROWS _ _ | exact mRf okDISKS _ _ | exact mRg okCELL _ _ | exact mRg okBB _ _ | exact mRg okB _ _ | exact mRg okIs _ _ | exact mRi _ _ | exact mOx _ _), ?_⟩ | refine ⟨mFk _ (by first | exact mC _ | exact mT | exact mR okB _ | exact mR okBB _ | exact mR okBBB _ | exact mRn okB _ _ | exact mRn okBB _ _ | exact mOw _ _ _ _ | exact mRm okB _ _ _ | exact mRa _ _ | exact mRg okROW _ _ | exact mRg okROWS _ _ | exact mRf okDISKS _ _ | exact mRg okCELL _ _ | exact mRg okBB _ _ | exact mRg okB _ _ | exact mRg okIs _ _ | exact mRi _ _ | exact mOx _ _), ?_⟩ | refine ⟨fun _ => (by first | exact mC _ | exact mT | exact mR okB _ | exact mR okBB _ | exact mR okBBB _ | exact mRn okB _ _ | exact mRn okBB _ _ | exact mOw _ _ _ _ | exact mRm okB _ _ _ | exact mRa _ _ | exact mRg okROW _ _ | exact mRg okROWS _ _ | exact mRf okDISKS _ _ | exact mRg okCELL _ _ | exact mRg okBB _ _ | exact mRg okB _ _ | exact mRg okIs _ _ | exact mRi _ _ | exact mOx _ _), ?_⟩)
  · simp only [StepsL3]
    refine ⟨?_, ?_, ?_, ?_, ?_, ?_, ?_, ?_, ?_, ?_, ?_, ?_, ?_, ?_, ?_, ?_, ?_, ?_, ?_, ?_, trivial⟩
    · refine @id (StepG _ _ _ _ _ _ _ _ _ _ _) ?_
      intro nst ys wx hn hmay hw hS hd
      intro K hK
      simp only [putL, Act.put, List.setIfInBounds_toArray, List.set_cons_zero, List.set_cons_succ, Nat.zero_add, Nat.reduceAdd] at hK ⊢
      rw [if_pos (by rfl)]
      go_simp
      exact hK _ _ (Below.refl _ _) rfl
    · refine @id (StepG _ _ _ _ _ _ _ _ _ _ _) ?_
      intro nst ys wx hn hmay hw hS hd
      intro K hK
      simp only [putL, Act.put, List.setIfInBounds_toArray, List.set_cons_zero, List.set_cons_succ, Nat.zero_add, Nat.reduceAdd] at hK ⊢
      rw [if_pos (by rfl)]
      go_simp
      exact hK _ _ (Below.refl _ _) rfl
    · refine @id (StepG _ _ _ _ _ _ _ _ _ _ _) ?_
      intro nst ys wx hn hmay hw hS hd
      intro K hK
      have e1 : ys 1 = _ := hd 1 (by decide)
      simp only [putL, Act.put, List.setIfInBounds_toArray, List.set_cons_zero, List.set_cons_succ, Nat.zero_add, Nat.reduceAdd, e1] at hK ⊢
      rw [if_pos (by rfl)]
      have kx := (hx1.out.keep hw (Nat.lt_succ_self _)).c1
      go_simp
      exact hK _ _ (Below.refl _ _) rfl
    · refine @id (StepG _ _ _ _ _ _ _ _ _ _ _) ?_
      intro nst ys wx hn hmay hw hS hd
      intro K hK
      simp only [putL, Act.put, List.setIfInBounds_toArray, List.set_cons_zero, List.set_cons_succ, Nat.zero_add, Nat.reduceAdd] at hK ⊢
      rw [if_pos (by rfl)]
      go_simp
      exact hK _ _ (Below.refl _ _) rfl
    · refine @id (StepG _ _ _ _ _ _ _ _ _ _ _) ?_
      intro nst ys wx hn hmay hw hS hd
      intro K hK
      simp only [putL, Act.put, List.setIfInBounds_toArray, List.set_cons_zero, List.set_cons_succ, Nat.zero_add, Nat.reduceAdd] at hK ⊢
      rw [if_pos (by rfl)]
      go_simp
      exact hK _ _ (Below.refl _ _) rfl
    · refine @id (StepG _ _ _ _ _ _ _ _ _ _ _) ?_
      intro nst ys wx hn hmay hw hS hd
      intro K hK
      have e4 : ys 4 = _ := hd 4 (by decide)
      simp only [putL, Act.put, List.setIfInBounds_toArray, List.set_cons_zero, List.set_cons_succ, Nat.zero_add, Nat.reduceAdd, e4] at hK ⊢
      rw [if_pos (by rfl)]
      have kx := (hx1.out.keep hw (Nat.lt_succ_self _)).c2
      go_simp
      exact hK _ _ (Below.refl _ _) rfl
    · refine @id (StepG _ _ _ _ _ _ _ _ _ _ _) ?_
      intro nst ys wx hn hmay hw hS hd
      intro K hK
      simp only [putL, Act.put, List.setIfInBounds_toArray, List.set_cons_zero, List.set_cons_succ, Nat.zero_add, Nat.reduceAdd] at hK ⊢
      rw [if_pos (by rfl)]
      go_simp
      exact hK _ _ (Below.refl _ _) rfl
    · refine @id (StepG _ _ _ _ _ _ _ _ _ _ _) ?_
      intro nst ys wx hn hmay hw hS hd
      intro K hK
      simp only [putL, Act.put, List.setIfInBounds_toArray, List.set_cons_zero, List.set_cons_succ, Nat.zero_add, Nat.reduceAdd] at hK ⊢
      rw [if_pos (by rfl)]
      go_simp
      exact hK _ _ (Below.refl _ _) rfl
    · refine @id (StepG _ _ _ _ _ _ _ _ _ _ _) ?_
      intro nst ys wx hn hmay hw hS hd
      intro K hK
      have e7 : ys 7 = _ := hd 7 (by decide)
      simp only [putL, Act.put, List.setIfInBounds_toArray, List.set_cons_zero, List.set_cons_succ, Nat.zero_add, Nat.reduceAdd, e7] at hK ⊢
      rw [if_pos (by rfl)]
      have kx := (hx1.out.keep hw (Nat.lt_succ_self _)).c2
      go_simp
      exact hK _ _ (Below.refl _ _) rfl
    · refine @id (StepG _ _ _ _ _ _ _ _ _ _ _) ?_
      intro nst ys wx hn hmay hw hS hd
      intro K hK
      have e6 : ys 6 = _ := hd 6 (by decide)
      have e8 : ys 8 = _ := hd 8 (by decide)
      simp only [putL, Act.put, List.setIfInBounds_toArray, List.set_cons_zero, List.set_cons_succ, Nat.zero_add, Nat.reduceAdd, e6, e8] at hK ⊢
      rw [if_pos (by rfl)]
      have q1 : (m : Int) < 9 := by omega
      have q0 : (0 : Int) ≤ m := by omega
      have q2 : (m : Int).toNat = m := by omega
      go_simp
      exact hK _ _ (Below.refl _ _) rfl
    · refine @id (StepG _ _ _ _ _ _ _ _ _ _ _) ?_
      intro nst ys wx hn hmay hw hS hd
      obtain rfl : nst = 0 := may_one hmay hn (by kernel_rfl)
      intro K hK
      have e9 : ys 9 = _ := hd 9 (by decide)
      simp only [putL, Act.put, List.setIfInBounds_toArray, List.set_cons_zero, List.set_cons_succ, Nat.zero_add, Nat.reduceAdd, e9] at hK ⊢
      rw [if_pos (by rfl)]
      have kx := (hS.2 rfl).2
      go_simp
      exact hK _ _ (Below.refl _ _) rfl
    · refine @id (StepG _ _ _ _ _ _ _ _ _ _ _) ?_
      intro nst ys wx hn hmay hw hS hd
      intro K hK
      simp only [putL, Act.put, List.setIfInBounds_toArray, List.set_cons_zero, List.set_cons_succ, Nat.zero_add, Nat.reduceAdd] at hK ⊢
      rw [if_pos (by rfl)]
      go_simp
      exact hK _ _ (Below.refl _ _) rfl
    · refine @id (StepG _ _ _ _ _ _ _ _ _ _ _) ?_
      intro nst ys wx hn hmay hw hS hd
      intro K hK
      simp only [putL, Act.put, List.setIfInBounds_toArray, List.set_cons_zero, List.set_cons_succ, Nat.zero_add, Nat.reduceAdd] at hK ⊢
      rw [if_pos (by rfl)]
      go_simp
      exact hK _ _ (Below.refl _ _) rfl
    · refine @id (StepG _ _ _ _ _ _ _ _ _ _ _) ?_
      intro nst ys wx hn hmay hw hS hd
      intro K hK
      have e12 : ys 12 = _ := hd 12 (by decide)
      simp only [putL, Act.put, List.setIfInBounds_toArray, List.set_cons_zero, List.set_cons_succ, Nat.zero_add, Nat.reduceAdd, e12] at hK ⊢
      rw [if_pos (by rfl)]
      have kx := (hx1.out.keep hw (Nat.lt_succ_self _)).c1
      go_simp
      exact hK _ _ (Below.refl _ _) rfl
    · refine @id (StepG _ _ _ _ _ _ _ _ _ _ _) ?_
      intro nst ys wx hn hmay hw hS hd
      intro K hK
      have e11 : ys 11 = _ := hd 11 (by decide)
      have e13 : ys 13 = _ := hd 13 (by decide)
      simp only [putL, Act.put, List.setIfInBounds_toArray, List.set_cons_zero, List.set_cons_succ, Nat.zero_add, Nat.reduceAdd, e11, e13] at hK ⊢
      rw [if_pos (by rfl)]
      have q1 : (n : Int) < 9 := by omega
      have q0 : (0 : Int) ≤ n := by omega
      have q2 : (n : Int).toNat = n := by omega
      go_simp
      exact hK _ _ (Below.refl _ _) rfl
    · refine @id (StepG _ _ _ _ _ _ _ _ _ _ _) ?_
      intro nst ys wx hn hmay hw hS hd
      obtain rfl : nst = 0 := may_one hmay hn (by kernel_rfl)
      intro K hK
      have e14 : ys 14 = _ := hd 14 (by decide)
      simp only [putL, Act.put, List.setIfInBounds_toArray, List.set_cons_zero, List.set_cons_succ, Nat.zero_add, Nat.reduceAdd, e14] at hK ⊢
      rw [if_pos (by rfl)]
      have kx := (hS.2 rfl).1
      go_simp
      exact hK _ _ (Below.refl _ _) rfl
    · refine @id (StepG _ _ _ _ _ _ _ _ _ _ _) ?_
      intro nst ys wx hn hmay hw hS hd
      intro K hK
      have e0 : ys 0 = _ := hd 0 (by decide)
      have e2 : ys 2 = _ := hd 2 (by decide)
      simp only [putL, Act.put, List.setIfInBounds_toArray, List.set_cons_zero, List.set_cons_succ, Nat.zero_add, Nat.reduceAdd, e0, e2] at hK ⊢
      rw [if_pos (by rfl)]
      have q1 : (n : Int) < 9 := by omega
      have q0 : (0 : Int) ≤ n := by omega
      have q2 : (n : Int).toNat = n := by omega
      go_simp
      exact hK _ _ (Below.refl _ _) rfl
    · refine @id (StepS _ _ _ _ _ _ _ _ _ _ _) ?_
      intro ys wx hw hS hd K hK
      have e10 : ys 10 = _ := hd 10 (by decide)
      have e16 : ys 16 = _ := hd 16 (by decide)
      simp only [putL, Act.put, List.setIfInBounds_toArray, List.set_cons_zero, List.set_cons_succ, Nat.zero_add, Nat.reduceAdd, e10, e16] at hK ⊢
      rw [if_pos (by rfl)]
      have hS0 : Bld RdB 22 wx (w.heap.size + 1) (fun _ => True) (.slice (some ⟨g, 0, none⟩) 9 c1) l := hS.1
      obtain ⟨u, hu, hfz, _⟩ := hS0.at_ hnl
      have hset := hS0.set_ okB hnl (u := .slice Am lm.length cm) (x := lm) (okB.mono (okB.below hRm hw fun k hk _ => hk.2) fun k hk => ⟨hk.1, trivial⟩)
      have hbs := (Below.refl (w.heap.size + 1) wx).setCell (p := ⟨g, n, none⟩) hg0 (.slice Am lm.length cm)
      go_simp
      exact hK undef _ hbs ⟨hset, fun h => by cases h⟩ trivial ⟨fun _ h => h, fun _ h => h, fun _ h => h, fun _ h => h, fun _ h => h, fun _ h => h, fun _ h => h, fun _ h => h, fun _ h => h, fun _ h => h, fun _ h => h, fun _ h => h, fun _ h => h, fun _ h => h, fun _ h => h, fun _ h => h, fun _ h => h, fun _ h => h, fun _ h => h, fun _ h => h, trivial⟩
    · refine @id (StepG _ _ _ _ _ _ _ _ _ _ _) ?_
      intro nst ys wx hn hmay hw hS hd
      intro K hK
      have e3 : ys 3 = _ := hd 3 (by decide)
      have e5 : ys 5 = _ := hd 5 (by decide)
      simp only [putL, Act.put, List.setIfInBounds_toArray, List.set_cons_zero, List.set_cons_succ, Nat.zero_add, Nat.reduceAdd, e3, e5] at hK ⊢
      rw [if_pos (by rfl)]
      have q1 : (m : Int) < 9 := by omega
      have q0 : (0 : Int) ≤ m := by omega
      have q2 : (m : Int).toNat = m := by omega
      go_simp
      exact hK _ _ (Below.refl _ _) rfl
    · refine @id (StepS _ _ _ _ _ _ _ _ _ _ _) ?_
      intro ys wx hw hS hd K hK
      have e15 : ys 15 = _ := hd 15 (by decide)
      have e18 : ys 18 = _ := hd 18 (by decide)
      simp only [putL, Act.put, List.setIfInBounds_toArray, List.set_cons_zero, List.set_cons_succ, Nat.zero_add, Nat.reduceAdd, e15, e18] at hK ⊢
      rw [if_pos (by rfl)]
      have hS0 : Bld RdB 22 wx (w.heap.size + 1) (fun _ => True) (.slice (some ⟨g, 0, none⟩) 9 c1) (l.set n lm) := hS.1
      have hml2 : m < (l.set n lm).length := by rw [List.length_set]; exact hml
      obtain ⟨u, hu, hfz, _⟩ := hS0.at_ hml2
      have hset := hS0.set_ okB hml2 (u := .slice An ln.length cn) (x := ln) (okB.mono (okB.below hRn hw fun k hk _ => hk.2) fun k hk => ⟨hk.1, trivial⟩)
      have hbs := (Below.refl (w.heap.size + 1) wx).setCell (p := ⟨g, m, none⟩) hg0 (.slice An ln.length cn)
      go_simp
      exact hK undef _ hbs ⟨hset, fun h => by cases h⟩ trivial ⟨fun _ h => h, fun _ h => h, fun _ h => h, fun _ h => h, fun _ h => h, fun _ h => h, fun _ h => h, fun _ h => h, fun _ h => h, fun _ h => h, fun _ h => h, fun _ h => h, fun _ h => h, fun _ h => h, fun _ h => h, fun _ h => h, fun _ h => h, fun _ h => h, fun _ h => h, fun _ h => h, trivial⟩
  · intro ys w' hl' hS' hV
    clear hV
    simp only [putL, Act.put, List.setIfInBounds_toArray, List.set_cons_zero, List.set_cons_succ, Nat.zero_add, Nat.reduceAdd]
    have hfin : Bld RdB 22 w' (w.heap.size + 1) (fun _ => True) (.slice (some ⟨g, 0, none⟩) 9 c1) ((l.set n lm).set m ln) := hS'.1
    have HF := Lib.hid (hfin.base_ (b := w.heap.size) (Nat.le_succ _))
    have HBl := Lib.hid (hnb1.out.trans (hl'.mono (Nat.le_succ _)))
    clear hfin hS' hl'
    go_wp2
    go_ret
    exact ⟨_, rfl, HF.out, HBl.out⟩
theorem model_Do (l : List Bs) (d : Deed) (v vd : Value) (F : Fp) (w : World) (h : RdBB w F v l) (hd : RdD w F vd d) (hl : l.length = 9) (hr : wrongI d = 0) :
    Calls Tryd.prog 23 #[v, vd] w fun e w' => ∃ v', e = .returned v' ∧ Bld RdB 22 w' w.heap.size (fun _ => True) v' (doD l d) ∧ Below w.heap.size w w' := by
  rcases (wrong_ok hr).2 with hk | hk
  · exact model_Do_write l d v vd F w h hd hl hr hk.1
  · exact model_Do_swap l d v vd F w h hd hl hr hk.1
end Go.Proofs.YtdcmbdghnkgghaaDoor

namespace Go.Proofs.YtdcmbdghnkgghaaDoor
set_option linter.unusedVariables false
open Go Go.RowKit M
theorem doD_len (l : List Bs) (d : Deed) (hl : l.length = 9) : (doD l d).length = 9 := by rw [doD_length, hl]
/-- The element that is appended, and why. -/
theorem doD_el (l : List Bs) (d : Deed) (hr : wrongI d = 0) (hl : l.length = 9) (k : Nat) (hk : k < 9) : ∃ x, (doD l d).take k ++ [x] = (doD l d).take (k + 1) ∧
    ((d.kind = 1 ∧ (k : Int) = d.n ∧ x = d.data) ∨ (d.kind = 1 ∧ (k : Int) ≠ d.n ∧ l[k]? = some x) ∨ (d.kind = 2 ∧ (k : Int) = d.n ∧ ∃ m : Nat, m < 9 ∧ d.m = m ∧ l[m]? = some x) ∨
      (d.kind = 2 ∧ (k : Int) ≠ d.n ∧ (k : Int) = d.m ∧ ∃ n : Nat, n < 9 ∧ d.n = n ∧ l[n]? = some x) ∨ (d.kind = 2 ∧ (k : Int) ≠ d.n ∧ (k : Int) ≠ d.m ∧ l[k]? = some x)) := by
  have hg := doD_get l d hr hl k hk
  obtain ⟨⟨n0, n1⟩, hq⟩ := wrong_ok hr
  have hlen := doD_len l d hl
  refine ⟨(doD l d).getD k [], ?_, ?_⟩
  · rw [List.take_succ_eq_append_getElem (by omega)]
    simp [List.getD, List.getElem?_eq_getElem (show k < (doD l d).length by omega)]
  · rw [hg]
    rcases hq with ⟨hk1, _⟩ | ⟨hk2, ⟨m0, m1⟩, _⟩
    · by_cases h : (k : Int) = d.n
      · left; exact ⟨hk1, h, by rw [if_pos ⟨hk1, h⟩]⟩
      · right; left
        refine ⟨hk1, h, ?_⟩
        rw [if_neg (by intro e; exact h e.2), if_neg (by intro e; omega), if_neg (by intro e; omega)]
        simp [List.getD, List.getElem?_eq_getElem (show k < l.length by omega)]
    · by_cases h : (k : Int) = d.n
      · right; right; left
        refine ⟨hk2, h, d.m.toNat, by omega, by omega, ?_⟩
        rw [if_neg (by intro e; omega), if_pos ⟨hk2, h⟩]
        simp [List.getD, List.getElem?_eq_getElem (show d.m.toNat < l.length by omega)]
      · by_cases h' : (k : Int) = d.m
        · right; right; right; left
          refine ⟨hk2, h, h', d.n.toNat, by omega, by omega, ?_⟩
          rw [if_neg (by intro e; omega), if_neg (by intro e; exact h e.2), if_pos ⟨hk2, h'⟩]
          simp [List.getD, List.getElem?_eq_getElem (show d.n.toNat < l.length by omega)]
        · right; right; right; right
          refine ⟨hk2, h, h', ?_⟩
          rw [if_neg (by intro e; omega), if_neg (by intro e; exact h e.2), if_neg (by intro e; exact h' e.2)]
          simp [List.getD, List.getElem?_eq_getElem (show k < l.length by omega)]
end Go.Proofs.YtdcmbdghnkgghaaDoor

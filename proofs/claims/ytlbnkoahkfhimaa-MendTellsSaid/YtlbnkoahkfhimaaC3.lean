/- Chapter 3: what xor.Two, xor.All, xor.Even and the reference's Xor compute. -/
import Derived.Test.YtlbnkoahkfhimaaBase
import Derived.Test.YtlbnkoahkfhimaaRegion
import Derived.Test.YtlbnkoahkfhimaaPure2
import Derived.Laws.BitsAllLaws
namespace Go.Proofs.Ytlbnkoahkfhimaa
set_option linter.unusedVariables false
open Go Go.RowKit M

theorem at8_xor (a b : Bs) (k : Nat) : bits .xor .u8 (at8 a k) (at8 b k) = (((a.getD k 0 ^^^ b.getD k 0).toNat : Nat) : Int) := by
  unfold at8
  rw [u8_xor_nat _ _ (UInt8.toNat_lt _) (UInt8.toNat_lt _), UInt8.toNat_xor]
theorem mk4 (w : World) : (Instr.makeSlice 23 (.int .i64 4) (.int .i64 4)).run Try.prog w = .ok (.slice (some ⟨w.heap.size, 0, none⟩) 4 4) (w.alloc (.cells #[.int .u8 0, .int .u8 0, .int .u8 0, .int .u8 0] 5)) := by kernel_rfl
theorem zero4_bld (w : World) : Bld R8 5 (w.alloc (.cells #[.int .u8 0, .int .u8 0, .int .u8 0, .int .u8 0] 5)) w.heap.size (fun _ => True) (.slice (some ⟨w.heap.size, 0, none⟩) 4 4) zero4 :=
  Bld.lit ok8 (us := zero4.map B8) (xs := zero4) 5 (Nat.le_refl _) rfl (by decide) fun j u x hu hx => by
    simp at hu
    obtain ⟨c, hc, rfl⟩ := hu
    rw [hc] at hx
    injection hx with hx
    subst hx
    rfl
set_option maxHeartbeats 400000 in
theorem xor_Two (a b : Bs) (va vb : Value) (F : Fp) (w : World) (ha : RdB w F va a) (hb : RdB w F vb b) (la : a.length = 4) (lb : b.length = 4) :
    Calls Try.prog 75 #[va, vb] w fun e w' => ∃ v', e = .returned v' ∧ Bld R8 5 w' w.heap.size (fun _ => True) v' (xorTwo a b) ∧ Below w.heap.size w w' := by
  obtain ⟨A, ca, rfl, _, _⟩ := ha.shape
  obtain ⟨B, cb, rfl, _, _⟩ := hb.shape
  rw [la] at ha ⊢
  rw [lb] at hb ⊢
  have hmk := mk4
  go_enter Try.func75, Try.ntmps75
  go_wp2
  clear hmk
  go_loopw [10] (fun i wr => ∃ k : Nat, k ≤ 4 ∧ i = .int .i64 k ∧ Bld R8 5 wr w.heap.size (fun _ => True) (.slice (some ⟨w.heap.size, 0, none⟩) 4 4) (xorTo a b k) ∧ Below w.heap.size w wr) (fun i _ => 4 - (intOf i).toNat)
  case atStart => exact ⟨0, Nat.zero_le _, rfl, zero4_bld w, below_alloc w _⟩
  case round =>
    obtain ⟨k, hk, rfl, hO, hl⟩ := hrel
    by_cases hlt : k < 4
    · obtain ⟨ba, oa, u, rfl, _, hu, hR⟩ := (okB.grow ha hl).at_ (k := k) (by omega)
      cases hR
      obtain ⟨bb, ob, u2, rfl, _, hu2, hR⟩ := (okB.grow hb hl).at_ (k := k) (by omega)
      cases hR
      obtain ⟨u3, hu3, hfz, _⟩ := hO.at_ (k := k) (by rw [xorTo_length a b hk]; exact hlt)
      unfold B8 at hu hu2
      rw [← at8_get (by omega)] at hu hu2
      have hx := at8_xor a b k
      have hset := hO.set_ ok8 (k := k) (by rw [xorTo_length a b hk]; exact hlt) (u := .int .u8 (bits .xor .u8 (at8 a k) (at8 b k))) (x := a.getD k 0 ^^^ b.getD k 0) (by unfold R8 B8; rw [hx])
      rw [xorTo_set a b hlt] at hset
      have hl2 := hl.setCell (p := ⟨w.heap.size, k, none⟩) (Nat.le_refl _) (.int .u8 (bits .xor .u8 (at8 a k) (at8 b k)))
      clear hx ha hb hO
      go_wp2
      go_region
      go_wp2
      go_roundw
      case rel => exact ⟨k + 1, by omega, by go_num, hset, hl2.drew⟩
      case measure => simp [intOf]; omega
    · go_wp2
      obtain rfl : k = 4 := by omega
      go_ret
      exact ⟨_, rfl, hO, hl⟩
set_option maxHeartbeats 400000 in
theorem xor_All (l : List Bs) (v : Value) (F : Fp) (w : World) (h : RdBB w F v l) (hl4 : Blocks4 l) :
    Calls Try.prog 60 #[v] w fun e w' => ∃ v', e = .returned v' ∧ Bld R8 5 w' w.heap.size (fun _ => True) v' (xorAll l) ∧ Below w.heap.size w w' := by
  obtain ⟨A, c, rfl, _, hc2⟩ := h.shape
  unfold maxLen at hc2
  have hmk := mk4
  go_enter Try.func60, Try.ntmps60
  go_wp2
  clear hmk
  go_loopw [3, 9] (fun v i wr => ∃ k : Nat, k ≤ l.length ∧ i = .int .i64 k ∧ Bld R8 5 wr w.heap.size (fun _ => True) v (xorAll (l.take k)) ∧ Below w.heap.size w wr) (fun _ i _ => l.length - (intOf i).toNat)
  case atStart => exact ⟨0, Nat.zero_le _, rfl, zero4_bld w, below_alloc w _⟩
  case round =>
    obtain ⟨k, hk, rfl, hO, hlw⟩ := hrel
    by_cases hlt : k < l.length
    · obtain ⟨bb, off, u, rfl, _, hu, hR⟩ := (okBB.grow h hlw).at_ hlt
      have hrd := hO.toRd_ ok8
      have hnext := Lib.hid (xorAll_take hlt)
      have hsz := Lib.hid hlw.size
      clear h hO
      go_wp2_with (go_at_call 75; refine (xor_Two _ _ _ _ (fun _ => True) _ (okB.mono hrd fun _ _ => trivial) (okB.mono hR fun _ _ => trivial) (xorAll_length _) (hl4 _ (List.getElem_mem hlt))).mono ?_; rintro e w' ⟨v', rfl, hv', hb'⟩; rw [← hnext.out] at hv')
      have hv2 : Bld R8 5 w' w.heap.size (fun _ => True) v' (xorAll (l.take (k + 1))) := hv'.base_ hsz.out
      have hl2 := hlw.trans (hb'.mono hsz.out)
      clear hv' hb'
      go_roundw
      case rel => exact ⟨k + 1, by omega, by go_num, hv2, hl2⟩
      case measure => simp [intOf]; omega
    · go_wp2
      obtain rfl : k = l.length := by omega
      rw [List.take_length] at hO
      go_ret
      exact ⟨_, rfl, hO, hlw⟩
theorem at8_zero {b : Bs} (h : b.length = 4) (hz : ∀ j, j < 4 → at8 b j = 0) : b = zero4 :=
  at8_ext h fun j hj => by
    rw [hz j (by omega)]
    unfold at8
    rw [zero4_get]
    rfl
theorem at8_zero4 (j : Nat) : at8 zero4 j = 0 := by unfold at8; rw [zero4_get]; rfl
/-- What the reference's loops have: byte i behind k bits. -/
def refTo (l : List Bs) (i k : Nat) : Bs := (List.range 4).map fun j => if j < i then (xorAll l).getD j 0 else if j = i then UInt8.ofNat (refByte l i k) else 0
theorem refTo_length (l : List Bs) (i k : Nat) : (refTo l i k).length = 4 := by simp [refTo]
theorem refTo_start (l : List Bs) : refTo l 0 0 = zero4 := rfl
theorem refTo_set (l : List Bs) (i k : Nat) (hi : i < 4) : (refTo l i k).set i (UInt8.ofNat (refByte l i (k + 1))) = refTo l i (k + 1) := by
  match i, hi with
  | 0, _ => rfl
  | 1, _ => rfl
  | 2, _ => rfl
  | 3, _ => rfl
theorem refTo_next (l : List Bs) (i : Nat) (hi : i < 4) : refTo l i 8 = refTo l (i + 1) 0 := by
  unfold refTo
  rw [refByte_all l i hi]
  match i, hi with
  | 0, _ => simp [List.range, List.range.loop, refByte]
  | 1, _ => simp [List.range, List.range.loop, refByte]
  | 2, _ => simp [List.range, List.range.loop, refByte]
  | 3, _ => simp [List.range, List.range.loop]
theorem refTo_all (l : List Bs) : refTo l 4 0 = xorAll l := by
  obtain ⟨x, y, z, t, h⟩ := len4 (xorAll_length l)
  simp [refTo, h, List.range, List.range.loop]
theorem refTo_at (l : List Bs) (i k : Nat) (hi : i < 4) (hk : k < 8) : at8 (refTo l i k) i = ((refByte l i k : Nat) : Int) := by
  have hb := refByte_lt l i k
  have h2 : 2 ^ k ≤ 2 ^ 7 := Nat.pow_le_pow_right (by decide) (by omega)
  have e : (refTo l i k).getD i 0 = UInt8.ofNat (refByte l i k) := by
    match i, hi with
    | 0, _ => rfl
    | 1, _ => rfl
    | 2, _ => rfl
    | 3, _ => rfl
  unfold at8
  rw [e, UInt8.toNat_ofNat']
  omega
theorem cnt_round (l : List Bs) (i m q : Nat) (hq : q < l.length) (p : Int) (hp : p = ((2 ^ m : Nat) : Int)) :
    ((cntB (l.take (q + 1)) i m : Nat) : Int) = if at8 (l[q]) i / p % 2 = 1 then ((cntB (l.take q) i m : Nat) : Int) + 1 else ((cntB (l.take q) i m : Nat) : Int) := by
  rw [cntB_take hq]
  subst hp
  unfold at8
  have : (((l[q].getD i 0).toNat : Nat) : Int) / ((2 ^ m : Nat) : Int) % 2 = (((l[q].getD i 0).toNat / 2 ^ m % 2 : Nat) : Int) := by omega
  rw [this]
  split
  · rename_i h; rw [if_pos (by omega)]; omega
  · rename_i h; rw [if_neg (by omega)]; omega
set_option maxHeartbeats 800000 in
theorem ref_Xor (l : List Bs) (v : Value) (F : Fp) (w : World) (h : RdBB w F v l) (hl4 : Blocks4 l) :
    Calls Try.prog 36 #[v] w fun e w' => ∃ v', e = .returned v' ∧ Bld R8 5 w' w.heap.size (fun _ => True) v' (xorAll l) ∧ Below w.heap.size w w' := by
  obtain ⟨A, c, rfl, _, hc2⟩ := h.shape
  unfold maxLen at hc2
  go_enter Try.func36, Try.ntmps36
  go_wp2
  go_loopw [12] (fun i wr => ∃ k : Nat, k ≤ 4 ∧ i = .int .i64 k ∧ Bld R8 5 wr w.heap.size (fun _ => True) (.slice (some ⟨w.heap.size, 0, none⟩) 4 4) (refTo l k 0) ∧ Below w.heap.size w wr) (fun i _ => 4 - (intOf i).toNat)
  case atStart => exact ⟨0, Nat.zero_le _, rfl, zero4_bld w, below_alloc w _⟩
  case round =>
    obtain ⟨i, hi, rfl, hO, hl⟩ := hrel
    by_cases hlt : i < 4
    · go_wp2
      obtain ⟨wo, rfl⟩ : ∃ wo : World, wo = wr := ⟨_, rfl⟩
      go_loopw [5] (fun b wr => ∃ (m : Nat) (p : Int), m ≤ 8 ∧ Hid (p = ((2 ^ m : Nat) : Int)) ∧ b = .int .i64 p ∧ Bld R8 5 wr w.heap.size (fun _ => True) (.slice (some ⟨w.heap.size, 0, none⟩) 4 4) (refTo l i m) ∧ Below w.heap.size w wr) (fun b _ => 256 - (intOf b).toNat)
      case atStart => exact ⟨0, 1, Nat.zero_le _, Lib.hid rfl, rfl, hO, hl⟩
      case round =>
        obtain ⟨m, p, hm, hp, rfl, hO, hl⟩ := hrel
        by_cases hm8 : m < 8
        · have hp1 : 1 ≤ p := by
            have := Nat.pow_pos (n := m) (show 0 < 2 by decide)
            have e := hp.out
            omega
          have hp2 : p ≤ 128 := by
            have h2 : 2 ^ m ≤ 2 ^ 7 := Nat.pow_le_pow_right (by decide) (by omega)
            have e := hp.out
            omega
          go_wp2
          obtain ⟨wo2, rfl⟩ : ∃ wo : World, wo = wr := ⟨_, rfl⟩
          go_loop [6, 21] (fun n q => ∃ k : Nat, k ≤ l.length ∧ q = .int .i64 k ∧ n = .int .i64 ((cntB (l.take k) i m : Nat) : Int)) (fun _ q => l.length - (intOf q).toNat)
          case atStart => exact ⟨0, Nat.zero_le _, rfl, rfl⟩
          case round =>
            obtain ⟨k, hk, rfl, rfl⟩ := hrel
            have c0 : 0 ≤ ((cntB (l.take k) i m : Nat) : Int) := by omega
            have c1 : ((cntB (l.take k) i m : Nat) : Int) ≤ k := by have := cntB_le (l.take k) i m; simp at this; omega
            by_cases hlk : k < l.length
            · obtain ⟨ba, oa, u, rfl, _, hu, hR⟩ := (okBB.grow h hl).at_ hlk
              obtain ⟨B, cb, rfl, _, _⟩ := hR.shape
              have h4 := hl4 _ (List.getElem_mem hlk)
              rw [h4] at hR hu
              obtain ⟨bb, ob, u2, rfl, _, hu2, hR2⟩ := hR.at_ (k := i) (by omega)
              cases hR2
              unfold B8 at hu2
              rw [← at8_get (by omega)] at hu2
              have hcr := cnt_round l i m k hlk p hp.out
              have x0 := at8_lo l[k] i
              have x1 := at8_hi l[k] i
              generalize at8 l[k] i = x at *
              generalize ((cntB (l.take k) i m : Nat) : Int) = n at *
              have d0 : 0 ≤ x / p := Int.ediv_nonneg x0 (by omega)
              have d1 : x / p ≤ 255 := Int.le_trans (Int.ediv_le_self p x0) x1
              by_cases hb : x / p % 2 = 1
              · rw [if_pos hb] at hcr
                have hb' : (x / p % 2 == 1) = true := by simpa using hb
                have HC := Lib.hid hcr
                clear hcr hb hO hR h4 h
                go_wp2
                go_round
                case rel => exact ⟨k + 1, by omega, by go_num, by rw [HC.out]⟩
                case measure => simp [intOf]; omega
              · rw [if_neg hb] at hcr
                have hb' : (x / p % 2 == 1) = false := by simpa using hb
                have HC := Lib.hid hcr
                clear hcr hb hO hR h4 h
                go_wp2
                go_round
                case rel => exact ⟨k + 1, by omega, by go_num, by rw [HC.out]⟩
                case measure => simp [intOf]; omega
            · obtain rfl : k = l.length := by omega
              rw [List.take_length] at *
              obtain ⟨u3, hu3, hfz, hR3⟩ := hO.at_ (k := i) (by rw [refTo_length]; exact hlt)
              cases hR3
              unfold B8 at hu3
              rw [← at8_get (by rw [refTo_length]; exact hlt), refTo_at l i m hlt hm8] at hu3
              have hb := refByte_lt l i (m + 1)
              have h2 : 2 ^ (m + 1) ≤ 2 ^ 8 := Nat.pow_le_pow_right (by decide) (by omega)
              have hrec : refByte l i (m + 1) = refByte l i m + 2 ^ m * (cntB l i m % 2) := rfl
              have hpo := hp.out
              have hset := fun (z : Int) (hz : z = ((refByte l i (m + 1) : Nat) : Int)) => hO.set_ ok8 (k := i) (by rw [refTo_length]; exact hlt) (u := .int .u8 z) (x := UInt8.ofNat (refByte l i (m + 1))) (R8_of (by rw [hz]; omega))
              rw [refTo_set l i m hlt] at hset
              have hp3 : ((2 ^ (m + 1) : Nat) : Int) = 2 * p := by rw [hpo, Nat.pow_succ]; omega
              have HP3 := Lib.hid hp3.symm
              have hl2 := fun (z : Int) => hl.setCell (p := ⟨w.heap.size, i, none⟩) (Nat.le_refl _) (.int .u8 z)
              generalize hX : ((refByte l i m : Nat) : Int) = X at *
              have X0 : 0 ≤ X := by omega
              rcases Nat.mod_two_eq_zero_or_one (cntB l i m) with hpar | hpar
              · have hz : X = ((refByte l i (m + 1) : Nat) : Int) := by rw [hrec, hpar]; omega
                have hX1 : X ≤ 255 := by omega
                have hs := Lib.hid (hset _ hz)
                have hL := Lib.hid (hl2 X)
                have hp' : ((cntB l i m : Nat) : Int) % 2 = 0 := by omega
                generalize ((cntB l i m : Nat) : Int) = n at *
                clear hset hl2 hz hpar hrec hX hp3 hpo hO hb h2 h
                go_wp2
                go_roundw
                case rel => exact ⟨m + 1, 2 * p, by omega, Lib.hid HP3.out.symm.symm, by go_num, hs.out, hL.out⟩
                case measure => simp [intOf]; omega
              · have hz : X + p = ((refByte l i (m + 1) : Nat) : Int) := by rw [hrec, hpar]; omega
                have hX1 : X + p ≤ 255 := by omega
                have hs := Lib.hid (hset _ hz)
                have hL := Lib.hid (hl2 (X + p))
                have hp' : ((cntB l i m : Nat) : Int) % 2 = 1 := by omega
                generalize ((cntB l i m : Nat) : Int) = n at *
                clear hset hl2 hz hpar hrec hX hp3 hpo hO hb h2 h
                go_wp2
                go_roundw
                case rel => exact ⟨m + 1, 2 * p, by omega, Lib.hid HP3.out.symm.symm, by go_num, hs.out, hL.out⟩
                case measure => simp [intOf]; omega
        · obtain rfl : m = 8 := by omega
          have hp256 : p = 256 := hp.out
          subst hp256
          clear hp
          rw [refTo_next l i hlt] at hO
          go_wp2
          go_roundw
          case rel => exact ⟨i + 1, by omega, by go_num, hO, hl⟩
          case measure => simp [intOf]; omega
    · obtain rfl : i = 4 := by omega
      rw [refTo_all] at hO
      go_wp2
      go_ret
      exact ⟨_, rfl, hO, hl⟩
end Go.Proofs.Ytlbnkoahkfhimaa

/- Chapter 4: what plan.Spare, plan.Where, plan.Block and the reference's three compute. -/
import Derived.Test.YtlbnkoahkfhimaaBase
import Derived.Test.YtlbnkoahkfhimaaRegion
namespace Go.Proofs.Ytlbnkoahkfhimaa
set_option linter.unusedVariables false
open Go Go.RowKit M

def where_ (n : Nat) : Nat := if 3 - n / 3 ≤ n % 3 then n % 3 + 1 else n % 3
def blockI (d s : Int) : Int := if d = 3 - s then -1 else if 3 - s < d then s * 3 + (d - 1) else s * 3 + d
theorem ref_Spare (s : Int) (w : World) (h0 : 0 ≤ s) (h1 : s ≤ 1000000) :
    Calls Try.prog 69 #[.int .i64 s] w fun e w' => e = .returned (.int .i64 (3 - s % 4)) ∧ Below w.heap.size w w' := by
  have hm : s % 4 = 0 ∨ s % 4 = 1 ∨ s % 4 = 2 ∨ s % 4 = 3 := by omega
  rcases hm with hm | hm | hm | hm
  all_goals
    go_enter Try.func69, Try.ntmps69
    go_wp2
    go_ret
    exact ⟨ret_int (by omega), below_alloc _ _⟩
def cntW (s d : Int) : Int := 3 * s + (if 3 - s < d then d - 1 else d)
/-- Where a block is: a closed table. -/
def whD (n : Int) : Int := if 3 - n / 3 ≤ n % 3 then n % 3 + 1 else n % 3
set_option maxHeartbeats 800000 in
theorem ref_Where_no (n : Int) (w : World) (hn : n < 0 ∨ 9 ≤ n) :
    Calls Try.prog 52 #[.int .i64 n] w fun e w' => e = .returned (.tuple #[.int .i64 0, .int .i64 0, .int .i64 3]) ∧ Below w.heap.size w w' := by
  go_enter Try.func52, Try.ntmps52
  go_wp2
  go_loopw [5, 8] (fun c i wr => ∃ s : Nat, s ≤ 3 ∧ i = .int .i64 s ∧ c = .int .i64 (3 * s) ∧ Below w.heap.size w wr) (fun _ i _ => 3 - (intOf i).toNat)
  case atStart => exact ⟨0, Nat.zero_le _, rfl, rfl, Below.refl _ _⟩
  case round =>
    obtain ⟨s, hs, rfl, rfl, hl⟩ := hrel
    by_cases hlt : s < 3
    · have hb3 : decide ((s : Int) < 3) = true := by simp; omega
      go_wp2
      obtain ⟨wo, rfl⟩ : ∃ wo : World, wo = wr := ⟨_, rfl⟩
      go_loopw [5, 11] (fun c i wr => ∃ d : Nat, d ≤ 4 ∧ i = .int .i64 d ∧ c = .int .i64 (cntW s d) ∧ Below w.heap.size w wr) (fun _ i _ => 4 - (intOf i).toNat)
      case atStart => exact ⟨0, Nat.zero_le _, rfl, by unfold cntW; rw [if_neg (by omega)]; congr 1, hl⟩
      case round =>
        obtain ⟨d, hd, rfl, rfl, hl⟩ := hrel
        by_cases hld : d < 4
        · have hc0 : 0 ≤ cntW s d := by unfold cntW; split <;> omega
          have hc1 : cntW s d ≤ 9 := by unfold cntW; split <;> omega
          have hsp : (3 : Int) - (s : Int) % 4 = 3 - (s : Int) := by omega
          have HS := Lib.hid hsp
          clear hsp
          by_cases hds : (d : Int) = 3 - (s : Int)
          · have hcn : cntW s d = cntW s ((d : Int) + 1) := by unfold cntW; rw [if_neg (by omega), if_pos (by omega)]; omega
            have HC := Lib.hid hcn
            have HD := Lib.hid hds
            have hb : ((d : Int) == 3 - (s : Int)) = true := by simpa using hds
            clear hcn hds
            go_wp2_with (go_at_call 69; refine (ref_Spare _ _ (by omega) (by omega)).mono ?_; rintro e w' ⟨rfl, hb'⟩; rw [HS.out])
            have hl2 := hl.trans (hb'.mono hl.size)
            clear hb'
            go_roundw
            case rel => exact ⟨d + 1, by omega, by go_num, by rw [HC.out]; rfl, hl2⟩
            case measure => simp [intOf]; omega
          · have hcn : cntW s d + 1 = cntW s ((d : Int) + 1) := by unfold cntW; split <;> split <;> omega
            have HC := Lib.hid hcn
            have hcx : cntW s d < 9 := by unfold cntW; split <;> omega
            have hb : ((d : Int) == 3 - (s : Int)) = false := by simpa using hds
            have hb2 : (cntW s d == n) = false := by simp; omega
            clear hcn hds
            generalize cntW s d = x at *
            go_wp2_with (go_at_call 69; refine (ref_Spare _ _ (by omega) (by omega)).mono ?_; rintro e w' ⟨rfl, hb'⟩; rw [HS.out])
            have hl2 := hl.trans (hb'.mono hl.size)
            clear hb'
            go_roundw
            case rel => exact ⟨d + 1, by omega, by go_num, by rw [HC.out]; rfl, hl2⟩
            case measure => simp [intOf]; omega
        · obtain rfl : d = 4 := by omega
          have hcn : cntW s (4 : Nat) = 3 * ((s : Int) + 1) := by unfold cntW; rw [if_pos (by omega)]; omega
          have HC := Lib.hid hcn
          clear hcn
          go_wp2
          go_roundw
          case rel => exact ⟨s + 1, by omega, by go_num, by rw [HC.out]; rfl, hl⟩
          case measure => simp [intOf]; omega
    · go_wp2
      go_ret3
      exact ⟨rfl, hl⟩
set_option maxHeartbeats 800000 in
theorem ref_Where (n : Nat) (w : World) (hn : n < 9) :
    Calls Try.prog 52 #[.int .i64 n] w fun e w' => e = .returned (.tuple #[.int .i64 ((where_ n : Nat) : Int), .int .i64 ((n / 3 : Nat) : Int), .int .i64 0]) ∧ Below w.heap.size w w' := by
  go_enter Try.func52, Try.ntmps52
  go_wp2
  go_loopw [5, 8] (fun c i wr => ∃ s : Nat, s ≤ 3 ∧ 3 * (s : Int) ≤ n ∧ i = .int .i64 s ∧ c = .int .i64 (3 * s) ∧ Below w.heap.size w wr) (fun _ i _ => 3 - (intOf i).toNat)
  case atStart => exact ⟨0, Nat.zero_le _, by omega, rfl, rfl, Below.refl _ _⟩
  case round =>
    obtain ⟨s, hs, hsn, rfl, rfl, hl⟩ := hrel
    by_cases hlt : s < 3
    · have hb3 : decide ((s : Int) < 3) = true := by simp; omega
      go_wp2
      obtain ⟨wo, rfl⟩ : ∃ wo : World, wo = wr := ⟨_, rfl⟩
      go_loopw [5, 11] (fun c i wr => ∃ d : Nat, d ≤ 4 ∧ cntW s d ≤ n ∧ i = .int .i64 d ∧ c = .int .i64 (cntW s d) ∧ Below w.heap.size w wr) (fun _ i _ => 4 - (intOf i).toNat)
      case atStart => exact ⟨0, Nat.zero_le _, by unfold cntW; rw [if_neg (by omega)]; omega, rfl, by unfold cntW; rw [if_neg (by omega)]; congr 1, hl⟩
      case round =>
        obtain ⟨d, hd, hdn, rfl, rfl, hl⟩ := hrel
        by_cases hld : d < 4
        · have hc0 : 0 ≤ cntW s d := by unfold cntW; split <;> omega
          have hc1 : cntW s d ≤ 9 := by unfold cntW; split <;> omega
          have hsp : (3 : Int) - (s : Int) % 4 = 3 - (s : Int) := by omega
          have HS := Lib.hid hsp
          clear hsp
          by_cases hds : (d : Int) = 3 - (s : Int)
          · have hcn : cntW s d = cntW s ((d : Int) + 1) := by unfold cntW; rw [if_neg (by omega), if_pos (by omega)]; omega
            have HC := Lib.hid hcn
            have HN : Hid (cntW s (((d + 1 : Nat)) : Int) ≤ n) := Lib.hid (by rw [show (((d + 1 : Nat)) : Int) = (d : Int) + 1 by omega, ← hcn]; exact hdn)
            have hb : ((d : Int) == 3 - (s : Int)) = true := by simpa using hds
            clear hcn hds
            go_wp2_with (go_at_call 69; refine (ref_Spare _ _ (by omega) (by omega)).mono ?_; rintro e w' ⟨rfl, hb'⟩; rw [HS.out])
            have hl2 := hl.trans (hb'.mono hl.size)
            clear hb'
            go_roundw
            case rel => exact ⟨d + 1, by omega, HN.out, by go_num, by rw [HC.out]; rfl, hl2⟩
            case measure => simp [intOf]; omega
          · have hcn : cntW s d + 1 = cntW s ((d : Int) + 1) := by unfold cntW; split <;> split <;> omega
            have HC := Lib.hid hcn
            have hcx : cntW s d < 9 := by unfold cntW; split <;> omega
            have hb : ((d : Int) == 3 - (s : Int)) = false := by simpa using hds
            have hxd : cntW s d = 3 * (s : Int) + d ∧ (d : Int) < 3 - s ∨ cntW s d = 3 * (s : Int) + d - 1 ∧ 3 - (s : Int) < d := by unfold cntW; split <;> omega
            by_cases hxn : cntW s d = n
            · have hb2 : (cntW s d == (n : Int)) = true := by simpa using hxn
              have r1 : where_ n = d := by unfold where_; split <;> omega
              have r2 : n / 3 = s := by omega
              have R1 := Lib.hid r1
              have R2 := Lib.hid r2
              clear hcn hds r1 r2 hxn hxd
              generalize cntW s d = x at *
              go_wp2_with (go_at_call 69; refine (ref_Spare _ _ (by omega) (by omega)).mono ?_; rintro e w' ⟨rfl, hb'⟩; rw [HS.out])
              have hl2 := hl.trans (hb'.mono hl.size)
              clear hb'
              go_ret3
              exact ⟨by rw [R1.out, R2.out]; rfl, hl2⟩
            · have hb2 : (cntW s d == (n : Int)) = false := by simpa using hxn
              have HN : Hid (cntW s (((d + 1 : Nat)) : Int) ≤ n) := Lib.hid (by rw [show (((d + 1 : Nat)) : Int) = (d : Int) + 1 by omega, ← hcn]; omega)
              clear hcn hds hxn hxd
              generalize cntW s d = x at *
              go_wp2_with (go_at_call 69; refine (ref_Spare _ _ (by omega) (by omega)).mono ?_; rintro e w' ⟨rfl, hb'⟩; rw [HS.out])
              have hl2 := hl.trans (hb'.mono hl.size)
              clear hb'
              go_roundw
              case rel => exact ⟨d + 1, by omega, HN.out, by go_num, by rw [HC.out]; rfl, hl2⟩
              case measure => simp [intOf]; omega
        · obtain rfl : d = 4 := by omega
          have hcn : cntW s (4 : Nat) = 3 * ((s : Int) + 1) := by unfold cntW; rw [if_pos (by omega)]; omega
          have HC := Lib.hid hcn
          have hs1 : 3 * (s : Int) + 3 ≤ n := by omega
          clear hcn
          go_wp2
          go_roundw
          case rel => exact ⟨s + 1, by omega, by omega, by go_num, by rw [HC.out]; rfl, hl⟩
          case measure => simp [intOf]; omega
    · exfalso; omega
/-- What is at a place, for the reference: the first block that is there, else below 0. -/
theorem where_at (d s : Int) (h0 : 0 ≤ d) (h1 : d < 4) (h2 : 0 ≤ s) (h3 : s < 3) :
    (blockI d s = -1 ∧ ∀ n : Nat, n < 9 → ¬(((where_ n : Nat) : Int) = d ∧ ((n / 3 : Nat) : Int) = s)) ∨
    (∃ m : Nat, m < 9 ∧ blockI d s = m ∧ ((where_ m : Nat) : Int) = d ∧ ((m / 3 : Nat) : Int) = s ∧ ∀ n : Nat, n < m → ¬(((where_ n : Nat) : Int) = d ∧ ((n / 3 : Nat) : Int) = s)) := by
  obtain ⟨d, rfl⟩ := Int.eq_ofNat_of_zero_le h0
  obtain ⟨s, rfl⟩ := Int.eq_ofNat_of_zero_le h2
  by_cases he : (d : Int) = 3 - s
  · left
    refine ⟨by unfold blockI; rw [if_pos he], fun n hn ⟨ha, hb⟩ => ?_⟩
    unfold where_ at ha
    split at ha <;> omega
  · right
    by_cases hlt : (3 : Int) - s < d
    · refine ⟨s * 3 + (d - 1), by omega, by unfold blockI; rw [if_neg he, if_pos hlt]; omega, by unfold where_; split <;> omega, by omega, fun n hn ⟨ha, hb⟩ => ?_⟩
      unfold where_ at ha
      split at ha <;> omega
    · refine ⟨s * 3 + d, by omega, by unfold blockI; rw [if_neg he, if_neg hlt]; omega, by unfold where_; split <;> omega, by omega, fun n hn ⟨ha, hb⟩ => ?_⟩
      unfold where_ at ha
      split at ha <;> omega
end Go.Proofs.Ytlbnkoahkfhimaa

/- Chapter 4: what plan.Spare, plan.Where, plan.Block and the reference's three compute. -/
import Derived.Test.YtobhkdobocjoeaaBase
import Derived.Test.YtobhkdobocjoeaaRegion
namespace Go.Proofs.Ytobhkdobocjoeaa
open Go Go.RowKit M

def where_ (n : Nat) : Nat := if 3 - n / 3 ≤ n % 3 then n % 3 + 1 else n % 3
theorem plan_Spare (s : Int) (w : World) (h0 : 0 ≤ s) (h1 : s ≤ 1000000) :
    Calls Try.prog 32 #[.int .i64 s] w fun e w' => e = .returned (.int .i64 (3 - s % 4)) ∧ w = w' := by
  go_enter Try.func32, Try.ntmps32
  go_wp2
  go_ret
  exact ⟨ret_int (by omega), rfl⟩
theorem plan_Where_no (n : Int) (w : World) (h : n < 0 ∨ 9 ≤ n) :
    Calls Try.prog 28 #[.int .i64 n] w fun e w' => e = .returned (.tuple #[.int .i64 0, .int .i64 0, .int .i64 3]) ∧ w = w' := by
  rcases h with h | h
  · go_enter Try.func28, Try.ntmps28
    go_wp2
    go_ret3
    exact ⟨rfl, rfl⟩
  · go_enter Try.func28, Try.ntmps28
    go_wp2
    go_ret3
    exact ⟨rfl, rfl⟩
theorem plan_Where (n : Nat) (w : World) (h : n < 9) :
    Calls Try.prog 28 #[.int .i64 n] w fun e w' => e = .returned (.tuple #[.int .i64 ((where_ n : Nat) : Int), .int .i64 ((n / 3 : Nat) : Int), .int .i64 0]) ∧ w = w' := by
  match n, h with
  | 0, _ | 1, _ | 2, _ | 3, _ | 4, _ | 5, _ | 6, _ | 7, _ | 8, _ =>
    go_enter Try.func28, Try.ntmps28
    go_wp2
    go_ret3
    exact ⟨rfl, rfl⟩

def blockI (d s : Int) : Int := if d = 3 - s then -1 else if 3 - s < d then s * 3 + (d - 1) else s * 3 + d
theorem plan_Block_no (d s : Int) (w : World) (h : d < 0 ∨ 4 ≤ d ∨ s < 0 ∨ 3 ≤ s) :
    Calls Try.prog 30 #[.int .i64 d, .int .i64 s] w fun e w' => e = .returned (.tuple #[.int .i64 0, .int .i64 3]) ∧ w = w' := by
  by_cases h1 : d < 0
  · go_enter Try.func30, Try.ntmps30
    go_wp2
    go_ret2
    exact ⟨rfl, rfl⟩
  by_cases h2 : 4 ≤ d
  · go_enter Try.func30, Try.ntmps30
    go_wp2
    go_ret2
    exact ⟨rfl, rfl⟩
  by_cases h3 : s < 0
  · go_enter Try.func30, Try.ntmps30
    go_wp2
    go_ret2
    exact ⟨rfl, rfl⟩
  have h4 : 3 ≤ s := by omega
  go_enter Try.func30, Try.ntmps30
  go_wp2
  go_ret2
  exact ⟨rfl, rfl⟩
theorem plan_Block (d s : Int) (w : World) (h0 : 0 ≤ d) (h1 : d < 4) (h2 : 0 ≤ s) (h3 : s < 3) :
    Calls Try.prog 30 #[.int .i64 d, .int .i64 s] w fun e w' => e = .returned (.tuple #[.int .i64 (blockI d s), .int .i64 0]) ∧ w = w' := by
  have hd : d = 0 ∨ d = 1 ∨ d = 2 ∨ d = 3 := by omega
  have hs : s = 0 ∨ s = 1 ∨ s = 2 := by omega
  rcases hd with rfl | rfl | rfl | rfl <;> rcases hs with rfl | rfl | rfl
  all_goals
    go_enter Try.func30, Try.ntmps30
    go_wp2
    go_ret2
    exact ⟨rfl, rfl⟩
theorem ref_Spare (s : Int) (w : World) (h0 : 0 ≤ s) (h1 : s ≤ 1000000) :
    Calls Try.prog 33 #[.int .i64 s] w fun e w' => e = .returned (.int .i64 (3 - s % 4)) ∧ Below w.heap.size w w' := by
  have hm : s % 4 = 0 ∨ s % 4 = 1 ∨ s % 4 = 2 ∨ s % 4 = 3 := by omega
  rcases hm with hm | hm | hm | hm
  all_goals
    go_enter Try.func33, Try.ntmps33
    go_wp2
    go_ret
    exact ⟨ret_int (by omega), below_alloc _ _⟩
def cntW (s d : Int) : Int := 3 * s + (if 3 - s < d then d - 1 else d)
/-- Where a block is: a closed table. -/
def whD (n : Int) : Int := if 3 - n / 3 ≤ n % 3 then n % 3 + 1 else n % 3
set_option maxHeartbeats 800000 in
theorem ref_Where_no (n : Int) (w : World) (hn : n < 0 ∨ 9 ≤ n) :
    Calls Try.prog 29 #[.int .i64 n] w fun e w' => e = .returned (.tuple #[.int .i64 0, .int .i64 0, .int .i64 3]) ∧ Below w.heap.size w w' := by
  go_enter Try.func29, Try.ntmps29
  go_wp2
  go_loopw [5, 8] (fun c i wr => ∃ s : Nat, s ≤ 3 ∧ i = .int .i64 s ∧ c = .int .i64 (3 * s) ∧ Below w.heap.size w wr) (fun _ i _ => 3 - (intOf i).toNat)
  case atStart => exact ⟨0, Nat.zero_le _, rfl, rfl, Below.refl _ _⟩
  case round =>
    obtain ⟨s, hs, rfl, rfl, hl⟩ := hrel
    by_cases hlt : s < 3
    · have hb3 : decide ((s : Int) < 3) = true := by simp; omega
      go_wp2
      obtain ⟨wo, rfl⟩ : ∃ wo : World, wo = wr := ⟨_, rfl⟩
      go_loopw [5, 11] (fun c i wr => ∃ d : Nat, d ≤ 4 ∧ i = .int .i64 d ∧ c = .int .i64 (cntW s d) ∧ Below w.heap.size w wr) (fun _ i _ => 4 - (intOf i).toNat)
      case atStart => exact ⟨0, Nat.zero_le _, rfl, by unfold cntW; rw [if_neg (by omega)]; congr 1, hl⟩
      case round =>
        obtain ⟨d, hd, rfl, rfl, hl⟩ := hrel
        by_cases hld : d < 4
        · have hc0 : 0 ≤ cntW s d := by unfold cntW; split <;> omega
          have hc1 : cntW s d ≤ 9 := by unfold cntW; split <;> omega
          have hsp : (3 : Int) - (s : Int) % 4 = 3 - (s : Int) := by omega
          have HS := Lib.hid hsp
          clear hsp
          by_cases hds : (d : Int) = 3 - (s : Int)
          · have hcn : cntW s d = cntW s ((d : Int) + 1) := by unfold cntW; rw [if_neg (by omega), if_pos (by omega)]; omega
            have HC := Lib.hid hcn
            have HD := Lib.hid hds
            have hb : ((d : Int) == 3 - (s : Int)) = true := by simpa using hds
            clear hcn hds
            go_wp2_with (go_at_call 33; refine (ref_Spare _ _ (by omega) (by omega)).mono ?_; rintro e w' ⟨rfl, hb'⟩; rw [HS.out])
            have hl2 := hl.trans (hb'.mono hl.size)
            clear hb'
            go_roundw
            case rel => exact ⟨d + 1, by omega, by go_num, by rw [HC.out]; rfl, hl2⟩
            case measure => simp [intOf]; omega
          · have hcn : cntW s d + 1 = cntW s ((d : Int) + 1) := by unfold cntW; split <;> split <;> omega
            have HC := Lib.hid hcn
            have hcx : cntW s d < 9 := by unfold cntW; split <;> omega
            have hb : ((d : Int) == 3 - (s : Int)) = false := by simpa using hds
            have hb2 : (cntW s d == n) = false := by simp; omega
            clear hcn hds
            generalize cntW s d = x at *
            go_wp2_with (go_at_call 33; refine (ref_Spare _ _ (by omega) (by omega)).mono ?_; rintro e w' ⟨rfl, hb'⟩; rw [HS.out])
            have hl2 := hl.trans (hb'.mono hl.size)
            clear hb'
            go_roundw
            case rel => exact ⟨d + 1, by omega, by go_num, by rw [HC.out]; rfl, hl2⟩
            case measure => simp [intOf]; omega
        · obtain rfl : d = 4 := by omega
          have hcn : cntW s (4 : Nat) = 3 * ((s : Int) + 1) := by unfold cntW; rw [if_pos (by omega)]; omega
          have HC := Lib.hid hcn
          clear hcn
          go_wp2
          go_roundw
          case rel => exact ⟨s + 1, by omega, by go_num, by rw [HC.out]; rfl, hl⟩
          case measure => simp [intOf]; omega
    · go_wp2
      go_ret3
      exact ⟨rfl, hl⟩
set_option maxHeartbeats 800000 in
theorem ref_Where (n : Nat) (w : World) (hn : n < 9) :
    Calls Try.prog 29 #[.int .i64 n] w fun e w' => e = .returned (.tuple #[.int .i64 ((where_ n : Nat) : Int), .int .i64 ((n / 3 : Nat) : Int), .int .i64 0]) ∧ Below w.heap.size w w' := by
  go_enter Try.func29, Try.ntmps29
  go_wp2
  go_loopw [5, 8] (fun c i wr => ∃ s : Nat, s ≤ 3 ∧ 3 * (s : Int) ≤ n ∧ i = .int .i64 s ∧ c = .int .i64 (3 * s) ∧ Below w.heap.size w wr) (fun _ i _ => 3 - (intOf i).toNat)
  case atStart => exact ⟨0, Nat.zero_le _, by omega, rfl, rfl, Below.refl _ _⟩
  case round =>
    obtain ⟨s, hs, hsn, rfl, rfl, hl⟩ := hrel
    by_cases hlt : s < 3
    · have hb3 : decide ((s : Int) < 3) = true := by simp; omega
      go_wp2
      obtain ⟨wo, rfl⟩ : ∃ wo : World, wo = wr := ⟨_, rfl⟩
      go_loopw [5, 11] (fun c i wr => ∃ d : Nat, d ≤ 4 ∧ cntW s d ≤ n ∧ i = .int .i64 d ∧ c = .int .i64 (cntW s d) ∧ Below w.heap.size w wr) (fun _ i _ => 4 - (intOf i).toNat)
      case atStart => exact ⟨0, Nat.zero_le _, by unfold cntW; rw [if_neg (by omega)]; omega, rfl, by unfold cntW; rw [if_neg (by omega)]; congr 1, hl⟩
      case round =>
        obtain ⟨d, hd, hdn, rfl, rfl, hl⟩ := hrel
        by_cases hld : d < 4
        · have hc0 : 0 ≤ cntW s d := by unfold cntW; split <;> omega
          have hc1 : cntW s d ≤ 9 := by unfold cntW; split <;> omega
          have hsp : (3 : Int) - (s : Int) % 4 = 3 - (s : Int) := by omega
          have HS := Lib.hid hsp
          clear hsp
          by_cases hds : (d : Int) = 3 - (s : Int)
          · have hcn : cntW s d = cntW s ((d : Int) + 1) := by unfold cntW; rw [if_neg (by omega), if_pos (by omega)]; omega
            have HC := Lib.hid hcn
            have HN : Hid (cntW s (((d + 1 : Nat)) : Int) ≤ n) := Lib.hid (by rw [show (((d + 1 : Nat)) : Int) = (d : Int) + 1 by omega, ← hcn]; exact hdn)
            have hb : ((d : Int) == 3 - (s : Int)) = true := by simpa using hds
            clear hcn hds
            go_wp2_with (go_at_call 33; refine (ref_Spare _ _ (by omega) (by omega)).mono ?_; rintro e w' ⟨rfl, hb'⟩; rw [HS.out])
            have hl2 := hl.trans (hb'.mono hl.size)
            clear hb'
            go_roundw
            case rel => exact ⟨d + 1, by omega, HN.out, by go_num, by rw [HC.out]; rfl, hl2⟩
            case measure => simp [intOf]; omega
          · have hcn : cntW s d + 1 = cntW s ((d : Int) + 1) := by unfold cntW; split <;> split <;> omega
            have HC := Lib.hid hcn
            have hcx : cntW s d < 9 := by unfold cntW; split <;> omega
            have hb : ((d : Int) == 3 - (s : Int)) = false := by simpa using hds
            have hxd : cntW s d = 3 * (s : Int) + d ∧ (d : Int) < 3 - s ∨ cntW s d = 3 * (s : Int) + d - 1 ∧ 3 - (s : Int) < d := by unfold cntW; split <;> omega
            by_cases hxn : cntW s d = n
            · have hb2 : (cntW s d == (n : Int)) = true := by simpa using hxn
              have r1 : where_ n = d := by unfold where_; split <;> omega
              have r2 : n / 3 = s := by omega
              have R1 := Lib.hid r1
              have R2 := Lib.hid r2
              clear hcn hds r1 r2 hxn hxd
              generalize cntW s d = x at *
              go_wp2_with (go_at_call 33; refine (ref_Spare _ _ (by omega) (by omega)).mono ?_; rintro e w' ⟨rfl, hb'⟩; rw [HS.out])
              have hl2 := hl.trans (hb'.mono hl.size)
              clear hb'
              go_ret3
              exact ⟨by rw [R1.out, R2.out]; rfl, hl2⟩
            · have hb2 : (cntW s d == (n : Int)) = false := by simpa using hxn
              have HN : Hid (cntW s (((d + 1 : Nat)) : Int) ≤ n) := Lib.hid (by rw [show (((d + 1 : Nat)) : Int) = (d : Int) + 1 by omega, ← hcn]; omega)
              clear hcn hds hxn hxd
              generalize cntW s d = x at *
              go_wp2_with (go_at_call 33; refine (ref_Spare _ _ (by omega) (by omega)).mono ?_; rintro e w' ⟨rfl, hb'⟩; rw [HS.out])
              have hl2 := hl.trans (hb'.mono hl.size)
              clear hb'
              go_roundw
              case rel => exact ⟨d + 1, by omega, HN.out, by go_num, by rw [HC.out]; rfl, hl2⟩
              case measure => simp [intOf]; omega
        · obtain rfl : d = 4 := by omega
          have hcn : cntW s (4 : Nat) = 3 * ((s : Int) + 1) := by unfold cntW; rw [if_pos (by omega)]; omega
          have HC := Lib.hid hcn
          have hs1 : 3 * (s : Int) + 3 ≤ n := by omega
          clear hcn
          go_wp2
          go_roundw
          case rel => exact ⟨s + 1, by omega, by omega, by go_num, by rw [HC.out]; rfl, hl⟩
          case measure => simp [intOf]; omega
    · exfalso; omega
/-- What is at a place, for the reference: the first block that is there, else below 0. -/
theorem where_at (d s : Int) (h0 : 0 ≤ d) (h1 : d < 4) (h2 : 0 ≤ s) (h3 : s < 3) :
    (blockI d s = -1 ∧ ∀ n : Nat, n < 9 → ¬(((where_ n : Nat) : Int) = d ∧ ((n / 3 : Nat) : Int) = s)) ∨
    (∃ m : Nat, m < 9 ∧ blockI d s = m ∧ ((where_ m : Nat) : Int) = d ∧ ((m / 3 : Nat) : Int) = s ∧ ∀ n : Nat, n < m → ¬(((where_ n : Nat) : Int) = d ∧ ((n / 3 : Nat) : Int) = s)) := by
  obtain ⟨d, rfl⟩ := Int.eq_ofNat_of_zero_le h0
  obtain ⟨s, rfl⟩ := Int.eq_ofNat_of_zero_le h2
  by_cases he : (d : Int) = 3 - s
  · left
    refine ⟨by unfold blockI; rw [if_pos he], fun n hn ⟨ha, hb⟩ => ?_⟩
    unfold where_ at ha
    split at ha <;> omega
  · right
    by_cases hlt : (3 : Int) - s < d
    · refine ⟨s * 3 + (d - 1), by omega, by unfold blockI; rw [if_neg he, if_pos hlt]; omega, by unfold where_; split <;> omega, by omega, fun n hn ⟨ha, hb⟩ => ?_⟩
      unfold where_ at ha
      split at ha <;> omega
    · refine ⟨s * 3 + d, by omega, by unfold blockI; rw [if_neg he, if_neg hlt]; omega, by unfold where_; split <;> omega, by omega, fun n hn ⟨ha, hb⟩ => ?_⟩
      unfold where_ at ha
      split at ha <;> omega
theorem ref_Block_no (d s : Int) (w : World) (h : d < 0 ∨ 4 ≤ d ∨ s < 0 ∨ 3 ≤ s) :
    Calls Try.prog 31 #[.int .i64 d, .int .i64 s] w fun e w' => e = .returned (.tuple #[.int .i64 0, .int .i64 3]) ∧ w = w' := by
  by_cases h1 : d < 0
  · go_enter Try.func31, Try.ntmps31
    go_wp2
    go_ret2
    exact ⟨rfl, rfl⟩
  by_cases h2 : 4 ≤ d
  · go_enter Try.func31, Try.ntmps31
    go_wp2
    go_ret2
    exact ⟨rfl, rfl⟩
  by_cases h3 : s < 0
  · go_enter Try.func31, Try.ntmps31
    go_wp2
    go_ret2
    exact ⟨rfl, rfl⟩
  have h4 : 3 ≤ s := by omega
  go_enter Try.func31, Try.ntmps31
  go_wp2
  go_ret2
  exact ⟨rfl, rfl⟩
set_option maxHeartbeats 800000 in
theorem ref_Block (d s : Int) (w : World) (h0 : 0 ≤ d) (h1 : d < 4) (h2 : 0 ≤ s) (h3 : s < 3) :
    Calls Try.prog 31 #[.int .i64 d, .int .i64 s] w fun e w' => e = .returned (.tuple #[.int .i64 (blockI d s), .int .i64 0]) ∧ Below w.heap.size w w' := by
  have hat := where_at d s h0 h1 h2 h3
  have HAT := Lib.hid hat
  clear hat
  go_enter Try.func31, Try.ntmps31
  go_wp2
  go_loopw [24] (fun i wr => ∃ n : Nat, n ≤ 9 ∧ i = .int .i64 n ∧ (∀ m : Nat, m < n → ¬(((where_ m : Nat) : Int) = d ∧ ((m / 3 : Nat) : Int) = s)) ∧ Below w.heap.size w wr) (fun i _ => 9 - (intOf i).toNat)
  case atStart => exact ⟨0, Nat.zero_le _, rfl, fun m hm => by omega, Below.refl _ _⟩
  case round =>
    obtain ⟨n, hn, rfl, hno, hl⟩ := hrel
    have HNO := Lib.hid hno
    clear hno
    by_cases hlt : n < 9
    · by_cases hd : ((where_ n : Nat) : Int) = d ∧ ((n / 3 : Nat) : Int) = s
      · have hbl : blockI d s = n := by
          rcases HAT.out with ⟨_, hx⟩ | ⟨m, hm, hb, hc, hd', hx⟩
          · exact absurd hd (hx n hlt)
          · have e : m = n := by
              rcases Nat.lt_trichotomy m n with h | h | h
              · exact absurd ⟨hc, hd'⟩ (HNO.out m h)
              · exact h
              · exact absurd hd (hx n h)
            rw [hb, e]
        have HB := Lib.hid hbl
        obtain ⟨hd1, hd2⟩ := hd
        have b1 : (((where_ n : Nat) : Int) == d) = true := by simpa using hd1
        have b2 : ((n : Int) / 3 == s) = true := by simp; omega
        clear hbl hd1 hd2
        go_wp2_with (go_at_call 29; refine (ref_Where n _ hlt).mono ?_; rintro e w' ⟨rfl, hb'⟩)
        have hl2 := hl.trans (hb'.mono hl.size)
        go_ret2
        exact ⟨by rw [HB.out]; rfl, hl2⟩
      · have HD := Lib.hid hd
        by_cases h1' : ((where_ n : Nat) : Int) = d
        · have b1 : (((where_ n : Nat) : Int) == d) = true := by simpa using h1'
          have b2 : ((n : Int) / 3 == s) = false := by
            have : ¬ ((n / 3 : Nat) : Int) = s := fun h => hd ⟨h1', h⟩
            simp; omega
          clear hd h1'
          go_wp2_with (go_at_call 29; refine (ref_Where n _ hlt).mono ?_; rintro e w' ⟨rfl, hb'⟩)
          have hl2 := hl.trans (hb'.mono hl.size)
          clear hb'
          go_roundw
          case rel => exact ⟨n + 1, by omega, by go_num, fun m hm => by
            by_cases hmn : m = n
            · subst hmn; exact HD.out
            · exact HNO.out m (by omega), hl2⟩
          case measure => simp [intOf]; omega
        · have b1 : (((where_ n : Nat) : Int) == d) = false := by simpa using h1'
          clear hd h1'
          go_wp2_with (go_at_call 29; refine (ref_Where n _ hlt).mono ?_; rintro e w' ⟨rfl, hb'⟩)
          have hl2 := hl.trans (hb'.mono hl.size)
          clear hb'
          go_roundw
          case rel => exact ⟨n + 1, by omega, by go_num, fun m hm => by
            by_cases hmn : m = n
            · subst hmn; exact HD.out
            · exact HNO.out m (by omega), hl2⟩
          case measure => simp [intOf]; omega
    · obtain rfl : n = 9 := by omega
      have hbl : blockI d s = -1 := by
        rcases HAT.out with ⟨h, _⟩ | ⟨m, hm, _, hc, hd', _⟩
        · exact h
        · exact absurd ⟨hc, hd'⟩ (HNO.out m hm)
      have HB := Lib.hid hbl
      clear hbl
      go_wp2
      go_ret2
      exact ⟨by rw [HB.out]; rfl, hl⟩
end Go.Proofs.Ytobhkdobocjoeaa

/- Names, a closed sentence, holds: the call returns true. -/
import Derived.Test.YtobhkdobocjoeaaBase
import Derived.Test.YtobhkdobocjoeaaOpen
namespace Go.Proofs.Ytobhkdobocjoeaa
open Go Go.RowKit M

def nameErrs : List Int := [0, 1, 2, 3, 4, 5, 6, 7, 8, 9]
def nameHad : List Int := [4, 3, 9, 4, 8, 1, 2, 1, 2, 3, 4, 5, 100]
theorem names_cell {w : World} {e : TypeId} {zs : List Int} {k : Nat} (h : k < zs.length) : (w.alloc (.cells (zs.map fun z => Value.int .i64 z).toArray e)).cell? ⟨w.heap.size, k, none⟩ = some (.int .i64 (zs.getD k 0)) := by
  rw [cell_of_row (w.alloc (.cells (zs.map fun z => Value.int .i64 z).toArray e)) w.heap.size k _ e (0, 0) (heap_alloc_new w _)]
  simp [h]
theorem names_errs {k : Nat} (h : k < 10) : nameErrs.getD k 0 = k := by
  match k, h with
  | 0, _ | 1, _ | 2, _ | 3, _ | 4, _ | 5, _ | 6, _ | 7, _ | 8, _ | 9, _ => rfl
/-- A number out of the table. -/
def nameAt (k : Nat) : Int := nameHad.getD k 0
set_option maxHeartbeats 1600000 in
theorem names_walk (w : World) : Calls Try.prog 13 #[] w fun e w' => e = .returned (.bool true) ∧ Below w.heap.size w w' := by
  have hA : ∀ k, k < 10 → (w.alloc (.cells #[.int .i64 0, .int .i64 1, .int .i64 2, .int .i64 3, .int .i64 4, .int .i64 5, .int .i64 6, .int .i64 7, .int .i64 8, .int .i64 9] 34)).cell? ⟨w.heap.size, k, none⟩ = some (.int .i64 (k : Int)) := fun k hk => by
    have := names_cell (w := w) (e := 34) (zs := nameErrs) (k := k) hk
    rw [names_errs hk] at this
    exact this
  have hl1 := below_alloc w (.cells #[.int .i64 0, .int .i64 1, .int .i64 2, .int .i64 3, .int .i64 4, .int .i64 5, .int .i64 6, .int .i64 7, .int .i64 8, .int .i64 9] 34)
  have hs1 : (w.alloc (.cells #[.int .i64 0, .int .i64 1, .int .i64 2, .int .i64 3, .int .i64 4, .int .i64 5, .int .i64 6, .int .i64 7, .int .i64 8, .int .i64 9] 34)).heap.size = w.heap.size + 1 := by simp
  have HA := Lib.hid hA
  clear hA
  go_enter Try.func13, Try.ntmps13
  go_wp2_with fail
  generalize w.alloc (.cells #[.int .i64 0, .int .i64 1, .int .i64 2, .int .i64 3, .int .i64 4, .int .i64 5, .int .i64 6, .int .i64 7, .int .i64 8, .int .i64 9] 34) = w1 at *
  have HS := Lib.hid hs1
  clear hs1
  go_loop [10] (fun i => ∃ k : Nat, k ≤ 10 ∧ i = .int .i64 k) (fun i => 10 - (intOf i).toNat)
  case atStart => exact ⟨0, Nat.zero_le _, rfl⟩
  case round =>
    obtain ⟨k, hk, rfl⟩ := hrel
    by_cases hlt : k < 10
    · have hc := HA.out k hlt
      go_wp2
      go_round
      case rel => exact ⟨k + 1, by omega, by go_num⟩
      case measure => simp [intOf]; omega
    · have hB : ∀ k, k < 13 → (w1.alloc (.cells #[.int .i64 4, .int .i64 3, .int .i64 9, .int .i64 4, .int .i64 8, .int .i64 1, .int .i64 2, .int .i64 1, .int .i64 2, .int .i64 3, .int .i64 4, .int .i64 5, .int .i64 100] 3)).cell? ⟨w1.heap.size, k, none⟩ = some (.int .i64 (nameAt k)) := fun k hk => names_cell (w := w1) (e := 3) (zs := nameHad) (k := k) hk
      have hl2 := below_alloc w1 (.cells #[.int .i64 4, .int .i64 3, .int .i64 9, .int .i64 4, .int .i64 8, .int .i64 1, .int .i64 2, .int .i64 1, .int .i64 2, .int .i64 3, .int .i64 4, .int .i64 5, .int .i64 100] 3)
      have hC : ∀ k, k < 13 → ((w1.alloc (.cells #[.int .i64 4, .int .i64 3, .int .i64 9, .int .i64 4, .int .i64 8, .int .i64 1, .int .i64 2, .int .i64 1, .int .i64 2, .int .i64 3, .int .i64 4, .int .i64 5, .int .i64 100] 3)).alloc (.cells #[.int .i64 4, .int .i64 3, .int .i64 9, .int .i64 4, .int .i64 8, .int .i64 1, .int .i64 2, .int .i64 1, .int .i64 2, .int .i64 3, .int .i64 4, .int .i64 5, .int .i64 100] 3)).cell? ⟨w1.heap.size + 1, k, none⟩ = some (.int .i64 (nameAt k)) := fun k hk => by
        have := names_cell (w := w1.alloc (.cells #[.int .i64 4, .int .i64 3, .int .i64 9, .int .i64 4, .int .i64 8, .int .i64 1, .int .i64 2, .int .i64 1, .int .i64 2, .int .i64 3, .int .i64 4, .int .i64 5, .int .i64 100] 3)) (e := 3) (zs := nameHad) (k := k) hk
        rw [show (w1.alloc (.cells #[.int .i64 4, .int .i64 3, .int .i64 9, .int .i64 4, .int .i64 8, .int .i64 1, .int .i64 2, .int .i64 1, .int .i64 2, .int .i64 3, .int .i64 4, .int .i64 5, .int .i64 100] 3)).heap.size = w1.heap.size + 1 by simp] at this
        exact this
      have hl3 := below_alloc (w1.alloc (.cells #[.int .i64 4, .int .i64 3, .int .i64 9, .int .i64 4, .int .i64 8, .int .i64 1, .int .i64 2, .int .i64 1, .int .i64 2, .int .i64 3, .int .i64 4, .int .i64 5, .int .i64 100] 3)) (.cells #[.int .i64 4, .int .i64 3, .int .i64 9, .int .i64 4, .int .i64 8, .int .i64 1, .int .i64 2, .int .i64 1, .int .i64 2, .int .i64 3, .int .i64 4, .int .i64 5, .int .i64 100] 3)
      have hB2 := fun k hk => (hl3.cell (p := ⟨w1.heap.size, k, none⟩) (by simp)).trans (hB k hk)
      have hl := hl1.trans ((hl2.trans (hl3.mono hl2.size)).mono hl1.size)
      have HB := Lib.hid hB2
      have HC := Lib.hid hC
      clear hB hB2 hC hl2 hl3 hl1
      go_wp2_with fail
      generalize (w1.alloc (.cells #[.int .i64 4, .int .i64 3, .int .i64 9, .int .i64 4, .int .i64 8, .int .i64 1, .int .i64 2, .int .i64 1, .int .i64 2, .int .i64 3, .int .i64 4, .int .i64 5, .int .i64 100] 3)).alloc (.cells #[.int .i64 4, .int .i64 3, .int .i64 9, .int .i64 4, .int .i64 8, .int .i64 1, .int .i64 2, .int .i64 1, .int .i64 2, .int .i64 3, .int .i64 4, .int .i64 5, .int .i64 100] 3) = w2 at *
      go_loopw [23] (fun i wr => ∃ k : Nat, k ≤ 13 ∧ i = .int .i64 k ∧ Below w2.heap.size w2 wr) (fun i _ => 13 - (intOf i).toNat)
      case atStart => exact ⟨0, Nat.zero_le _, rfl, Below.refl _ _⟩
      case round =>
        obtain ⟨j, hj, rfl, hlr⟩ := hrel
        by_cases hlj : j < 13
        · have b0 := HB.out j hlj
          have b1 := HC.out j hlj
          have c0 := (hlr.cell (p := ⟨w1.heap.size, j, none⟩) (World.block_lt_of_cell? _ _ b0)).trans b0
          have c1 := (hlr.cell (p := ⟨w1.heap.size + 1, j, none⟩) (World.block_lt_of_cell? _ _ b1)).trans b1
          have q0 : (0 : Int) ≤ (j : Int) := by omega
          have q1 : (j : Int) < 13 := by omega
          clear b0 b1
          go_wp2
          go_region
          go_wp2
          go_roundw
          case rel => exact ⟨j + 1, by omega, by go_num, hlr.drew⟩
          case measure => simp [intOf]; omega
        · go_wp2
          go_ret
          exact ⟨rfl, hl.trans (hlr.mono hl.size)⟩
namespace namesDone
open Go.ChangeShapes Go.WideShapes Go.ChangeAt Go.RowKit M
open Go.ChangeMaps (open_string shut_string)
set_option linter.unusedVariables false
set_option maxRecDepth 100000 in
theorem lifted (os : Os) (started : os.Started) (H : Type) (enc : TypeId × Value → H) :
    ReturnsInHanded {} Try.checked os 13 .any (Rows.namesSpec.pre6 enc Try.prog Try.f13 Rows.namesRow.domain false) (Rows.namesSpec.post enc Try.prog Try.f13 false true false false) := by
  refine returnsInHanded_of_change (C := Try.checked) own started (by kernel_rfl) Try.func13
    (ChangeSpec.witness6 (enc := enc) (C := Try.checked) false ⟨#[], #[], []⟩ 8 (by kernel_rfl) (by kernel_rfl) (by kernel_rfl) (by kernel_rfl)) ?_
  intro W base args ds gs before hval0 hW hcnd _
  have hval : ∀ (j : Nat) t v, Try.f13.params[j]? = some t → args[j]? = some v → Value.okWide Try.prog W .any base t v := hval0
  have hW' := hW
  obtain ⟨p, q, hA0, hV, rfl, hfz, hnd⟩ := hW
  have hA : DataW.TrodAll enc Try.prog W 0 (fun _ => true) true Try.f13.params.toList args.toList ds p := hA0
  rw [Try.params13] at hA hval
  obtain ⟨hargs, rfl, rfl⟩ := trodAll_nil hA
  obtain rfl : args = #[] := by cases args; simp_all
  obtain ⟨rfl, rfl⟩ := trodVars_none hV
  clear hA0 hval0
  refine (names_walk  W ).mono fun e W' ⟨he, bel⟩ => ?_
  subst he
  exact ⟨_, rfl, _, _, _, [], _, [], hW', trodAll_mk1 (shut_bool Try.underlying4 _), trodAll_mk0, rfl, bel.frame _, fun h => by cases h⟩
theorem over : Rows.namesRow.holds Try.pinned (OpenSpec.ofChange Rows.namesSpec) :=
  OpenClaim.holds_of_wide 13 Try.f13 rfl rfl rfl rfl rfl rfl rfl ⟨rfl, rfl, rfl, rfl, rfl⟩ rfl rfl rfl rfl rfl (by kernel_rfl) Try.func13 (by kernel_rfl)
    (of_decide_eq_true (by kernel_rfl)) (by unfold Func.isWrapper; first | (rw [if_pos (by decide +kernel)]; kernel_rfl) | (rw [if_neg (by decide +kernel)]; exact ⟨rfl, rfl⟩))
    (fun os started H enc _ => lifted os started H enc)
/-- The statement. -/
theorem proved : Rows.NamesSaid := over
end namesDone
end Go.Proofs.Ytobhkdobocjoeaa

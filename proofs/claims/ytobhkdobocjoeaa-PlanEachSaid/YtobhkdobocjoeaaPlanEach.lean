/- Chapter 4: PlanEach holds for every input: the call returns true, and each argument reads behind it as it read before. -/
import Derived.Test.YtobhkdobocjoeaaL4
import Derived.Test.YtobhkdobocjoeaaOpen
import Derived.Maps.OwnOps
import Derived.Maps.RangeWalk
namespace Go.Proofs.Ytobhkdobocjoeaa
open Go Go.RowKit M
theorem block_where : ∀ n : Nat, n < 9 → blockI ((where_ n : Nat) : Int) ((n / 3 : Nat) : Int) = n := by decide
theorem where_place : ∀ n : Nat, n < 9 → where_ n < 4 ∧ ((where_ n : Nat) : Int) ≠ 3 - ((n / 3 : Nat) : Int) % 4 := by decide
theorem where_inj : ∀ n : Nat, n < 9 → ∀ m : Nat, m < 9 → where_ n = where_ m → n / 3 = m / 3 → n = m := by decide
/-- What the map reads as behind s rounds. -/
def spareMap : Nat → DataW Unit
  | 0 => .map []
  | s + 1 => (spareMap s).put (.int .i64 (3 - (s : Int))) (.lit (.int .i64 1))
theorem spareMap_new (s : Nat) (hs : s < 3) : (spareMap s).atKey (.int .i64 (3 - (s : Int))) (.lit (.int .i64 0)) = .lit (.int .i64 0) := by
  match s, hs with
  | 0, _ => rfl
  | 1, _ => rfl
  | 2, _ => rfl
theorem spareMap_small {x c : Int} (h : ∀ zd, (spareMap 3).atKey (.int .i64 x) zd = .lit (.int .i64 c)) : c ≤ 1 := by
  have h0 := h (.lit (.int .i64 0))
  have e : spareMap 3 = .map [(.int .i64 1, .lit (.int .i64 1)), (.int .i64 2, .lit (.int .i64 1)), (.int .i64 3, .lit (.int .i64 1))] := rfl
  rw [e] at h0
  simp only [DataW.atKey, List.find?_cons, List.find?_nil] at h0
  split at h0
  · rename_i p hp
    split at hp
    · injection hp with hp; subst hp; injection h0 with h0; injection h0 with _ h0; omega
    · split at hp
      · injection hp with hp; subst hp; injection h0 with h0; injection h0 with _ h0; omega
      · split at hp
        · injection hp with hp; subst hp; injection h0 with h0; injection h0 with _ h0; omega
        · cases hp
  · injection h0 with h0; injection h0 with _ h0; omega
theorem mapKeyed : Maps.Keyed Try.prog 3 := Maps.int_keyed Try.underlying3
theorem mapZero (w : World) : (zeroValue 3).run Try.prog w = .ok (.int .i64 0) w := by kernel_rfl
set_option maxHeartbeats 1600000 in
theorem planEach_core (a b D1 S1 D2 S2 : Int) (w : World) (a0 : 0 ≤ a) (a1 : a < 9) (b0 : 0 ≤ b) (b1 : b < 9) (d0 : 0 ≤ S1) (d1 : S1 < 3)
    (HW1 : Hid (∀ w : World, Calls Try.prog 28 #[.int .i64 a] w fun e w' => e = .returned (.tuple #[.int .i64 D1, .int .i64 S1, .int .i64 0]) ∧ w = w'))
    (HW2 : Hid (∀ w : World, Calls Try.prog 28 #[.int .i64 b] w fun e w' => e = .returned (.tuple #[.int .i64 D2, .int .i64 S2, .int .i64 0]) ∧ w = w'))
    (HB : Hid (∀ w : World, Calls Try.prog 30 #[.int .i64 D1, .int .i64 S1] w fun e w' => e = .returned (.tuple #[.int .i64 a, .int .i64 0]) ∧ w = w'))
    (hne : (D1 == 3 - S1 % 4) = false) (hS : (S1 != a / 3) = false) (hfin : Hid (D1 = D2 ∧ S1 = S2 ↔ a = b)) :
    Calls Try.prog 10 #[.int .i64 a, .int .i64 b] w fun e w' => e = .returned (.bool true) ∧ Below w.heap.size w w' := by
  have hmm := @run_makeMap Try.prog
  go_enter Try.func10, Try.ntmps10
  go_wp2_with fail
  refine (law4_alive w).mono ?_
  rintro e w' ⟨rfl, rfl⟩
  go_wp2_with fail
  refine (HW1.out _).mono ?_
  rintro e w' ⟨rfl, rfl⟩
  go_wp2_with fail
  refine (HW2.out _).mono ?_
  rintro e w' ⟨rfl, rfl⟩
  go_wp2_with fail
  refine (HB.out _).mono ?_
  rintro e w' ⟨rfl, rfl⟩
  go_wp2_with fail
  refine (plan_Spare S1 _ (by omega) (by omega)).mono ?_
  rintro e w' ⟨rfl, rfl⟩
  go_wp2_with fail
  go_loopw [79] (fun i wr => ∃ s : Nat, s ≤ 3 ∧ i = .int .i64 s ∧ wr.ownsMap Try.prog 3 (plainElem Try.prog 3) w.heap.size s (spareMap s) ∧ Below w.heap.size w wr) (fun i _ => 3 - (intOf i).toNat)
  case atStart => exact ⟨0, Nat.zero_le _, rfl, World.ownsMap_made _ _ _ _, below_alloc _ _⟩
  case round =>
    obtain ⟨s, hs, rfl, hown, hl⟩ := hrel
    by_cases hlt : s < 3
    · have hsp : (3 : Int) - (s : Int) % 4 = 3 - (s : Int) := by omega
      have HSP := Lib.hid hsp
      have hnew := spareMap_new s hlt
      have HN := Lib.hid hnew
      have hkey : keyOf Try.prog 3 (.int .i64 (3 - (s : Int))) = some (.int .i64 (3 - (s : Int))) := Maps.keyOf_int_mk Try.underlying3 (WalkArith.wf_i64 (by omega))
      have HK := Lib.hid hkey
      clear hsp hnew hkey
      go_wp2_with (first
        | (go_at_call 32; refine (plan_Spare _ _ (by omega) (by omega)).mono ?_; rintro e w' ⟨rfl, rfl⟩; rw [HSP.out])
        | (at_lookup; refine wpList_lookup_own_int _ rfl _ _ 42 rfl 3 3 .i64 mapKeyed Try.underlying42 Try.underlying3 (mapZero _) w.heap.size s _ rfl hown _ _ rfl HK.out ?_; intro c hat hwc; rw [HN.out] at hat; obtain rfl : (0 : Int) = c := (by injection hat with hat; injection hat with _ hat))
        | (at_mapUpdate; go_loud (refine wpList_mapUpdate_own _ rfl _ _ _ 42 rfl 3 3 mapKeyed Try.underlying42 _ w.heap.size s _ rfl hown (by unfold maxLen; omega) _ _ _ rfl rfl HK.out (.lit (.int .i64 1)) [] (plainElem_int Try.underlying3 (by decide)) ?_; intro w1 hown1 hgrow1)))
      all_goals try (exfalso; omega)
      all_goals try (exfalso; omega)
      ·
        go_roundw
        case rel => exact ⟨s + 1, by omega, by go_num, hown1, hl.grown hgrow1 hl.size (fun j hj => by cases hj; exact Nat.le_refl _)⟩
        case measure => simp [intOf]; omega
    · have hs3 : s = 3 := by omega
      subst hs3
      clear hs hlt
      generalize wr = wm at *
      go_wp2_with (first
        | (at_range; refine wpList_range_own _ rfl _ 42 rfl 3 3 mapKeyed Try.underlying42 _ w.heap.size 3 _ rfl hown ?_; intro w0 hrg0 hg0 hs0))
      go_frame
      go_loopw [16] (fun _ wr => ∃ (left : Lit → Bool) (cnt : Nat), wr.ranges Try.prog 3 (plainElem Try.prog 3) w.heap.size wm.heap.size 3 (spareMap 3) left cnt ∧ Below w.heap.size w wr) (fun _ wr => wr.rangeLeft w.heap.size wm.heap.size)
      case atStart => exact ⟨_, _, hrg0, hl.grown hg0 hl.size (fun j hj => by cases hj)⟩
      case round =>
        obtain ⟨left, cnt, hrg, hgw⟩ := hrel
        go_wp2_with (first
          | (at_next; go_loud (refine wpList_next_ranges_ii _ rfl _ rfl 3 3 .i64 .i64 mapKeyed Try.underlying3 Try.underlying3 w.heap.size _ 3 _ _ _ rfl hrg ?_ ?_)))
        · intro _ hl0
          go_wp2_with fail
          all_goals (go_ret; refine ⟨ret_bool ?_, hgw⟩)
          all_goals first
            | (have hd : ¬ D1 = D2 := by assumption
               have hne : a ≠ b := fun e => hd (hfin.out.mpr e).1
               simp [hne])
            | (have hd : D1 = D2 := by assumption
               have hfo := hfin.out
               by_cases hs : S1 = S2
               · have he := hfo.mp ⟨hd, hs⟩
                 simp [hs, he]
               · have hne : a ≠ b := fun e => hs (hfo.mpr e).2
                 rw [show (S1 == S2) = false from beq_false_of_ne hs, show (a == b) = false from beq_false_of_ne hne]
                 rfl)
        · intro x c w1 cnt1 hwx hwc hlx hat hrg1 hlt hg1 hs1 hen
          have hc1 := spareMap_small hat
          have hcc : (decide (1 < c)) = false := decide_eq_false (by omega)
          go_wp2_with fail
          all_goals try (exfalso; omega)
          go_roundw
          case rel =>
            iterate 8 apply Exists.intro
            refine ⟨⟨_, cnt1, hrg1, hgw.grown hg1 hgw.size (fun j hj => by cases hj; exact hl.size)⟩, ?_⟩
            rfl
          case measure => rw [hrg1.left_eq, hrg.left_eq]; exact hlt

set_option maxHeartbeats 1600000 in
theorem planEach_out (a b : Int) (w : World) (h : a < 0 ∨ 9 ≤ a ∨ b < 0 ∨ 9 ≤ b) :
    Calls Try.prog 10 #[.int .i64 a, .int .i64 b] w fun e w' => e = .returned (.bool true) ∧ w = w' := by
  have H := Lib.hid h
  clear h
  by_cases h1 : a < 0
  · go_enter Try.func10, Try.ntmps10
    go_wp2_with (go_at_call 34; refine (law4_alive _).mono ?_; rintro e w' ⟨rfl, rfl⟩)
    all_goals (go_ret; exact ⟨rfl, rfl⟩)
  by_cases h2 : 9 ≤ a
  · go_enter Try.func10, Try.ntmps10
    go_wp2_with (go_at_call 34; refine (law4_alive _).mono ?_; rintro e w' ⟨rfl, rfl⟩)
    all_goals (go_ret; exact ⟨rfl, rfl⟩)
  by_cases h3 : b < 0
  · go_enter Try.func10, Try.ntmps10
    go_wp2_with (go_at_call 34; refine (law4_alive _).mono ?_; rintro e w' ⟨rfl, rfl⟩)
    all_goals (go_ret; exact ⟨rfl, rfl⟩)
  have h4 : 9 ≤ b := by have := H.out; omega
  go_enter Try.func10, Try.ntmps10
  go_wp2_with (go_at_call 34; refine (law4_alive _).mono ?_; rintro e w' ⟨rfl, rfl⟩)
  all_goals (go_ret; exact ⟨rfl, rfl⟩)
theorem planEach_walk (a b : Int) (w : World) (_a0 : -9223372036854775808 ≤ a) (_a1 : a ≤ 9223372036854775807) (_b0 : -9223372036854775808 ≤ b) (_b1 : b ≤ 9223372036854775807) :
    Calls Try.prog 10 #[.int .i64 a, .int .i64 b] w fun e w' => e = .returned (.bool true) ∧ Below w.heap.size w w' := by
  by_cases h : a < 0 ∨ 9 ≤ a ∨ b < 0 ∨ 9 ≤ b
  · exact (planEach_out a b w h).mono fun e w' ⟨h1, h2⟩ => ⟨h1, by rw [← h2]; exact Below.refl _ _⟩
  · obtain ⟨n, rfl⟩ : ∃ n : Nat, a = n := ⟨a.toNat, by omega⟩
    obtain ⟨m, rfl⟩ : ∃ m : Nat, b = m := ⟨b.toNat, by omega⟩
    have hn : n < 9 := by omega
    have hm : m < 9 := by omega
    obtain ⟨hp1, hp2⟩ := where_place n hn
    refine planEach_core n m _ _ _ _ w (by omega) (by omega) (by omega) (by omega) (by omega) (by omega) (Lib.hid fun w => plan_Where n w hn) (Lib.hid fun w => plan_Where m w hm) (Lib.hid fun w => ?_) ?_ ?_ (Lib.hid ?_)
    · have := plan_Block ((where_ n : Nat) : Int) ((n / 3 : Nat) : Int) w (by omega) (by omega) (by omega) (by omega)
      rw [block_where n hn] at this
      exact this
    · exact beq_false_of_ne hp2
    · rw [show ((n / 3 : Nat) : Int) = (n : Int) / 3 by omega]
      exact bne_self_eq_false _
    · constructor
      · rintro ⟨h1, h2⟩
        exact congrArg Nat.cast (where_inj n hn m hm (by omega) (by omega))
      · intro h1
        obtain rfl : n = m := by omega
        exact ⟨rfl, rfl⟩
namespace planEachDone
open Go.ChangeShapes Go.WideShapes Go.ChangeAt Go.RowKit M
open Go.ChangeMaps (open_string shut_string)
set_option linter.unusedVariables false
set_option maxRecDepth 100000 in
theorem lifted (os : Os) (started : os.Started) (H : Type) (enc : TypeId × Value → H) :
    ReturnsInHanded {} Try.checked os 10 .any (Rows.planEachSpec.pre6 enc Try.prog Try.f10 Rows.planEachRow.domain false) (Rows.planEachSpec.post enc Try.prog Try.f10 false true false false) := by
  refine returnsInHanded_of_change (C := Try.checked) own started (by kernel_rfl) Try.func10
    (ChangeSpec.witness6 (enc := enc) (C := Try.checked) false ⟨#[], #[.int .i64 0, .int .i64 0], []⟩ 8 (by kernel_rfl) (by kernel_rfl) (by kernel_rfl) (by kernel_rfl)) ?_
  intro W base args ds gs before hval0 hW hcnd _
  have hval : ∀ (j : Nat) t v, Try.f10.params[j]? = some t → args[j]? = some v → Value.okWide Try.prog W .any base t v := hval0
  have hW' := hW
  obtain ⟨p, q, hA0, hV, rfl, hfz, hnd⟩ := hW
  have hA : DataW.TrodAll enc Try.prog W 0 (fun _ => true) true Try.f10.params.toList args.toList ds p := hA0
  rw [Try.params10] at hA hval
  obtain ⟨v0, vs0, d0, ds0, p0, q0, hargs, rfl, rfl, h0, r0⟩ := trodAll_cons hA
  obtain ⟨v1, vs1, d1, ds1, p1, q1, rfl, rfl, rfl, h1, r1⟩ := trodAll_cons r0
  obtain ⟨rfl, rfl, rfl⟩ := trodAll_nil r1
  obtain rfl : args = #[v0, v1] := by cases args; simp_all
  obtain ⟨rfl, rfl⟩ := trodVars_none hV
  obtain ⟨a0, rfl, rfl, rfl, w0⟩ := open_int Try.underlying3 (hval 0 3 v0 rfl rfl) h0
  have b0 := bounds_i64 w0
  obtain ⟨a1, rfl, rfl, rfl, w1⟩ := open_int Try.underlying3 (hval 1 3 v1 rfl rfl) h1
  have b1 := bounds_i64 w1
  clear hA0 hval0
  refine (planEach_walk a0 a1 W b0.1 b0.2 b1.1 b1.2).mono fun e W' ⟨he, bel⟩ => ?_
  subst he
  exact ⟨_, rfl, _, _, _, [], _, [], hW', trodAll_mk1 (shut_bool Try.underlying4 _), (trodAll_cons_mk (shut_int Try.underlying3 w0) (trodAll_cons_mk (shut_int Try.underlying3 w1) trodAll_mk0)), rfl, bel.frame _, fun h => by cases h⟩
theorem over : Rows.planEachRow.holds Try.pinned (OpenSpec.ofChange Rows.planEachSpec) :=
  OpenClaim.holds_of_wide 10 Try.f10 rfl rfl rfl rfl rfl rfl rfl ⟨rfl, rfl, rfl, rfl, rfl⟩ rfl rfl rfl rfl rfl (by kernel_rfl) Try.func10 (by kernel_rfl)
    (of_decide_eq_true (by kernel_rfl)) (by unfold Func.isWrapper; first | (rw [if_pos (by decide +kernel)]; kernel_rfl) | (rw [if_neg (by decide +kernel)]; exact ⟨rfl, rfl⟩))
    (fun os started H enc _ => lifted os started H enc)
/-- The statement. -/
theorem proved : Rows.PlanEachSaid := over
end planEachDone
end Go.Proofs.Ytobhkdobocjoeaa

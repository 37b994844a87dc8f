/- Chapter 7: StripeTwo holds for every input: the call returns true, and each argument reads behind it as it read before. -/
import Derived.Test.YtlbnkoahkfhimaaL7
import Derived.Test.YtlbnkoahkfhimaaOpen
import Derived.Lib.SmallJoins
namespace Go.Proofs.Ytlbnkoahkfhimaa
set_option linter.unusedVariables false
open Go Go.RowKit M
theorem stripeTwo_case (s one two : Int) (n : Nat) : (n ≠ 4 ∨ s < 0 ∨ 3 ≤ s ∨ one < 0 ∨ two ≤ one ∨ 4 ≤ two) ∨ (n = 4 ∧ ∃ s' a b : Nat, s = s' ∧ one = a ∧ two = b ∧ s' < 3 ∧ a < b ∧ b < 4) := by
  by_cases h : n ≠ 4 ∨ s < 0 ∨ 3 ≤ s ∨ one < 0 ∨ two ≤ one ∨ 4 ≤ two
  · exact .inl h
  · refine .inr ⟨by omega, s.toNat, one.toNat, two.toNat, by omega, by omega, by omega, by omega, by omega, by omega⟩
set_option maxRecDepth 100000 in
set_option maxHeartbeats 1600000 in
theorem stripeTwo_walk (four : List Bs) (v : Value) (s one two : Int) (w : World) (hf : RdBB w (fun _ => True) v four) (_ : -9223372036854775808 ≤ s) (_ : s ≤ 9223372036854775807) (_ : -9223372036854775808 ≤ one) (_ : one ≤ 9223372036854775807) (_ : -9223372036854775808 ≤ two) (_ : two ≤ 9223372036854775807) :
    Calls Try.prog 7 #[v, .int .i64 s, .int .i64 one, .int .i64 two] w fun e w' => e = .returned (.bool true) ∧ Below w.heap.size w w' := by
  obtain ⟨A, c, rfl, hc, hm⟩ := hf.shape
  unfold maxLen at hm
  go_enter Try.func7, Try.ntmps7
  go_wp2_with fail
  refine (law7_alive _).mono ?_
  rintro e w1 ⟨rfl, hb1⟩
  replace hf := okBB.grow hf hb1
  by_cases h4 : four.length = 4
  rotate_left
  · have e4 : ((four.length : Int) != 4) = true := by simp; omega
    clear h4 hf
    go_wp2
    go_ret
    exact ⟨rfl, hb1⟩
  have e4 : ((four.length : Int) != 4) = false := by simp; omega
  by_cases h0 : s < 0
  · clear h4 hf
    go_wp2
    go_ret
    exact ⟨rfl, hb1⟩
  have e5 : decide (s < 0) = false := by simpa using h0
  by_cases h3 : 3 ≤ s
  · have e6 : decide (3 ≤ s) = true := by simpa using h3
    clear h4 hf
    go_wp2
    go_ret
    exact ⟨rfl, hb1⟩
  have e6 : decide (3 ≤ s) = false := by simpa using h3
  by_cases g0 : one < 0
  · have e7 : decide (one < 0) = true := by simpa using g0
    clear h4 hf
    go_wp2
    go_ret
    exact ⟨rfl, hb1⟩
  have e7 : decide (one < 0) = false := by simpa using g0
  by_cases g1 : two ≤ one
  · have e8 : decide (two ≤ one) = true := by simpa using g1
    clear h4 hf
    go_wp2
    go_ret
    exact ⟨rfl, hb1⟩
  have e8 : decide (two ≤ one) = false := by simpa using g1
  by_cases g2 : 4 ≤ two
  · have e9 : decide (4 ≤ two) = true := by simpa using g2
    clear h4 hf
    go_wp2
    go_ret
    exact ⟨rfl, hb1⟩
  have e9 : decide (4 ≤ two) = false := by simpa using g2
  obtain ⟨s, rfl⟩ := Int.eq_ofNat_of_zero_le (show 0 ≤ s by omega)
  obtain ⟨one, rfl⟩ := Int.eq_ofNat_of_zero_le (show 0 ≤ one by omega)
  obtain ⟨two, rfl⟩ := Int.eq_ofNat_of_zero_le (show 0 ≤ two by omega)
  have hs3 : s < 3 := by omega
  have h12 : one < two := by omega
  have ht4 : two < 4 := by omega
  have ho4 : one < 4 := by omega
  rw [h4] at hf hc ⊢
  have e10 : ((4 : Nat) : Int) = 4 := rfl
  rw [h4] at e4
  clear h0 h3 g0 g1 g2
  go_wp2_with fail
  go_loopw [43] (fun i wr => ∃ k : Nat, k ≤ 4 ∧ i = .int .i64 k ∧ (∀ j, j < k → (four.getD j []).length = 4) ∧ Below w1.heap.size w1 wr) (fun i _ => 4 - (intOf i).toNat)
  case atStart => exact ⟨0, Nat.zero_le _, rfl, fun j hj => by omega, Below.refl _ _⟩
  case round =>
    obtain ⟨k, hk, rfl, hpre, hlw⟩ := hrel
    have HP := Lib.hid hpre
    have HLW := Lib.hid hlw
    have hbw := hb1.trans (hlw.mono hb1.size)
    clear hpre
    by_cases hlt : k < 4
    · have hkl : k < four.length := by omega
      have hbk : decide ((k : Int) < 4) = true := by simp; omega
      obtain ⟨b, off, u, rfl, _, hu, hR⟩ := (okBB.grow hf hlw).at_ hkl
      obtain ⟨A2, c2, rfl, _, _⟩ := hR.shape
      have HG := Lib.hid (show four.getD k [] = four[k] by simp [List.getD, List.getElem?_eq_getElem hkl])
      clear hlw
      by_cases hl4 : four[k].length = 4
      · have e11 : ((four[k].length : Int) != 4) = false := by simp; omega
        have HL := Lib.hid hl4
        clear hl4
        go_wp2
        go_roundw
        case rel => exact ⟨k + 1, by omega, by go_num, fun j hj => by rcases Nat.lt_succ_iff_lt_or_eq.1 hj with h | rfl; exact HP.out j h; rw [HG.out, HL.out], HLW.out⟩
        case measure => simp [intOf]; omega
      · have e11 : ((four[k].length : Int) != 4) = true := by simp; omega
        clear hl4
        go_wp2
        go_ret
        exact ⟨rfl, hbw⟩
    · obtain rfl : k = 4 := by omega
      have hB4 : Blocks4 four := fun b hb => by
        obtain ⟨j, hj, rfl⟩ := List.getElem_of_mem hb
        have := HP.out j (by omega)
        simpa [List.getD, List.getElem?_eq_getElem hj] using this
      obtain ⟨m1, m2⟩ := made_two (s := s) h4 hB4 hs3 h12 ht4
      have hf2 := okBB.grow hf hlw
      have HB4 := Lib.hid hB4
      have HM := Lib.hid (And.intro m1 m2)
      have H4 := Lib.hid h4
      have HBW := Lib.hid hbw
      clear hf hlw hB4 m1 m2 hk hlt h4 hb1
      go_wp2_with fail
      refine (stripe_Make four s _ _ _ hf2 (by omega) (by rw [H4.out]; decide) HB4.out).mono ?_
      rintro e w3 ⟨v3, rfl, hv3, hb3⟩
      have hml : (makeL four s).length = 4 := by rw [makeL_len, H4.out]
      have hv4 := hv3.bld_ okB (b := wr.heap.size) (fun _ hk => hk)
      obtain ⟨g, c3, rfl, hg0, hg1, hc3, hc3m⟩ := hv4.form (by omega)
      unfold maxLen at hc3m
      rw [hml] at hv4 hc3 ⊢
      have hset := hv4.set_ okB (k := one) (by rw [hml]; exact ho4) (u := .slice none 0 0) (x := []) (RdL.nil_ _ _ _ _ _ (by decide))
      obtain ⟨_, hf0, hf1, _⟩ := hv4.at_ (k := one) (by rw [hml]; exact ho4)
      have hset2 := hset.set_ okB (k := two) (by rw [List.length_set, hml]; exact ht4) (u := .slice none 0 0) (x := []) (RdL.nil_ _ _ _ _ _ (by decide))
      obtain ⟨_, hf2', hf3, _⟩ := hset.at_ (k := two) (by rw [List.length_set, hml]; exact ht4)
      have hgw : w.heap.size ≤ g := Nat.le_trans HBW.out.size hg0
      have hb4 := ((HBW.out.trans (hb3.mono HBW.out.size)).setCell (p := ⟨g, one, none⟩) hgw (.slice none 0 0)).setCell (p := ⟨g, two, none⟩) hgw (.slice none 0 0)
      have hr4 := hset2.toRd_ okB
      have H := Lib.hid (And.intro hr4 hb4)
      have hl4 : (((makeL four s).set one []).set two []).length = 4 := by rw [List.length_set, List.length_set, hml]
      clear hv3 hv4 hset hset2 hb3 hb4 hr4 hf2
      rename World => w4
      go_wp2_with fail
      refine (stripe_Data _ s _ _ _ H.out.1 (by rw [hl4]; decide)).mono ?_
      rintro e w5 ⟨v5, rfl, hv5, hb5⟩
      rw [HM.out.2] at hv5 ⊢
      obtain ⟨A5, c5, rfl, _, _⟩ := (hv5.toRd_ okB).shape
      have hr5 := okBB.grow H.out.1 hb5
      have hb6 := H.out.2.trans (hb5.mono H.out.2.size)
      clear hv5 hb5 hf0 hf1 hf2' hf3
      go_wp2_with fail
      refine (stripe_Bad _ s _ _ _ hr5 (by rw [hl4]; decide)).mono ?_
      rintro e w6 ⟨v6, rfl, hv6, hb7⟩
      rw [HM.out.1] at hv6
      have hi6 := hv6.toRd_ okI
      obtain ⟨g6, o6, c6, rfl, _, _, _, hc6m⟩ := hi6.form (by simp [ints])
      obtain ⟨u0, hu0, hq0⟩ := RdL_q hi6 (k := 0) (x := (one : Int)) rfl
      obtain ⟨u1, hu1, hq1⟩ := RdL_q hi6 (k := 1) (x := (two : Int)) rfl
      rw [Nat.add_zero] at hu0
      obtain rfl : u0 = .int .i64 one := hq0
      obtain rfl : u1 = .int .i64 two := hq1
      have hl2 : (ints [one, two]).length = 2 := rfl
      have hb8 := hb6.trans (hb7.mono hb6.size)
      rw [hl2]
      clear hv6 hi6 hr5 hb7 hb6
      go_wp2
      go_ret
      exact ⟨rfl, hb8⟩
namespace stripeTwoDone
open Go.ChangeShapes Go.WideShapes Go.ChangeAt Go.RowKit M
open Go.ChangeMaps (open_string shut_string)
set_option linter.unusedVariables false
set_option maxRecDepth 100000 in
theorem lifted (os : Os) (started : os.Started) (H : Type) (enc : TypeId × Value → H) :
    ReturnsInHanded {} Try.checked os 7 .any (Rows.stripeTwoSpec.pre6 enc Try.prog Try.f7 Rows.stripeTwoRow.domain false) (Rows.stripeTwoSpec.post enc Try.prog Try.f7 false true false false) := by
  refine returnsInHanded_of_change (C := Try.checked) own started (by kernel_rfl) Try.func7
    (ChangeSpec.witness6 (enc := enc) (C := Try.checked) false ⟨#[], #[.slice none 0 0, .int .i64 0, .int .i64 0, .int .i64 0], []⟩ 8 (by kernel_rfl) (by kernel_rfl) (by kernel_rfl) (by kernel_rfl)) ?_
  intro W base args ds gs before hval0 hW hcnd _
  have hval : ∀ (j : Nat) t v, Try.f7.params[j]? = some t → args[j]? = some v → Value.okWide Try.prog W .any base t v := hval0
  have hW' := hW
  obtain ⟨p, q, hA0, hV, rfl, hfz, hnd⟩ := hW
  have hA : DataW.TrodAll enc Try.prog W 0 (fun _ => true) true Try.f7.params.toList args.toList ds p := hA0
  rw [Try.params7] at hA hval
  obtain ⟨v0, vs0, d0, ds0, p0, q0, hargs, rfl, rfl, h0, r0⟩ := trodAll_cons hA
  obtain ⟨v1, vs1, d1, ds1, p1, q1, rfl, rfl, rfl, h1, r1⟩ := trodAll_cons r0
  obtain ⟨v2, vs2, d2, ds2, p2, q2, rfl, rfl, rfl, h2, r2⟩ := trodAll_cons r1
  obtain ⟨v3, vs3, d3, ds3, p3, q3, rfl, rfl, rfl, h3, r3⟩ := trodAll_cons r2
  obtain ⟨rfl, rfl, rfl⟩ := trodAll_nil r3
  obtain rfl : args = #[v0, v1, v2, v3] := by cases args; simp_all
  obtain ⟨rfl, rfl⟩ := trodVars_none hV
  obtain ⟨a0, len0, cap0, rfl⟩ := okWide_slice Try.underlying22 (hval 0 22 v0 rfl rfl)
  have k0 := h0
  have lt0 : ∀ x ∈ p0, x.block < W.heap.size := by obtain ⟨m, hm⟩ := k0; exact DataW.trod_lt m _ _ _ hm
  obtain ⟨fuel0, hf0⟩ := h0
  obtain ⟨b0, w0, l0⟩ := M.open_BB Try.underlying22 (by kernel_rfl) Try.underlying23 Try.underlying5 (by kernel_rfl) hf0
  obtain ⟨a1, rfl, rfl, rfl, w1⟩ := open_int Try.underlying3 (hval 1 3 v1 rfl rfl) h1
  have b1 := bounds_i64 w1
  obtain ⟨a2, rfl, rfl, rfl, w2⟩ := open_int Try.underlying3 (hval 2 3 v2 rfl rfl) h2
  have b2 := bounds_i64 w2
  obtain ⟨a3, rfl, rfl, rfl, w3⟩ := open_int Try.underlying3 (hval 3 3 v3 rfl rfl) h3
  have b3 := bounds_i64 w3
  clear hA0 hval0
  refine (stripeTwo_walk b0 _ a1 a2 a3 W w0 b1.1 b1.2 b2.1 b2.2 b3.1 b3.2).mono fun e W' ⟨he, bel⟩ => ?_
  subst he
  exact ⟨_, rfl, _, _, _, [], _, [], hW', trodAll_mk1 (shut_bool Try.underlying4 _), (trodAll_cons_mk (Below.trod laidOut (by kernel_rfl) (of_decide_eq_true (by kernel_rfl)) k0 bel lt0) (trodAll_cons_mk (shut_int Try.underlying3 w1) (trodAll_cons_mk (shut_int Try.underlying3 w2) (trodAll_cons_mk (shut_int Try.underlying3 w3) trodAll_mk0)))), rfl, bel.frame _, fun h => by cases h⟩
theorem over : Rows.stripeTwoRow.holds Try.pinned (OpenSpec.ofChange Rows.stripeTwoSpec) :=
  OpenClaim.holds_of_wide 7 Try.f7 rfl rfl rfl rfl rfl rfl rfl ⟨rfl, rfl, rfl, rfl, rfl⟩ rfl rfl rfl rfl rfl (by kernel_rfl) Try.func7 (by kernel_rfl)
    (of_decide_eq_true (by kernel_rfl)) (by unfold Func.isWrapper; first | (rw [if_pos (by decide +kernel)]; kernel_rfl) | (rw [if_neg (by decide +kernel)]; exact ⟨rfl, rfl⟩))
    (fun os started H enc _ => lifted os started H enc)
/-- The statement. -/
theorem proved : Rows.StripeTwoSaid := over
end stripeTwoDone
end Go.Proofs.Ytlbnkoahkfhimaa

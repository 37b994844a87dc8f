/- Chapter 7: StripeOne holds for every input: the call returns true, and each argument reads behind it as it read before. -/
import Derived.Test.YtlbnkoahkfhimaaL7
import Derived.Test.YtlbnkoahkfhimaaOpen
import Derived.Lib.SmallJoins
namespace Go.Proofs.Ytlbnkoahkfhimaa
set_option linter.unusedVariables false
open Go Go.RowKit M
set_option maxRecDepth 100000 in
set_option maxHeartbeats 1600000 in
theorem stripeOne_walk (three : List Bs) (v : Value) (s gone : Int) (w : World) (hf : RdBB w (fun _ => True) v three) (_ : -9223372036854775808 ≤ s) (_ : s ≤ 9223372036854775807) (_ : -9223372036854775808 ≤ gone) (_ : gone ≤ 9223372036854775807) :
    Calls Try.prog 8 #[v, .int .i64 s, .int .i64 gone] w fun e w' => e = .returned (.bool true) ∧ Below w.heap.size w w' := by
  replace hf := okBB.lt hf
  obtain ⟨A, c, rfl, hc, hm⟩ := hf.shape
  unfold maxLen at hm
  go_enter Try.func8, Try.ntmps8
  go_wp2_with fail
  refine (law7_alive _).mono ?_
  rintro e w1 ⟨rfl, hb1⟩
  replace hf := okBB.grow hf hb1
  by_cases h4 : three.length = 3
  rotate_left
  · have e4 : ((three.length : Int) != 3) = true := by simp; omega
    clear h4 hf
    go_wp2
    go_ret
    exact ⟨rfl, hb1⟩
  have e4 : ((three.length : Int) != 3) = false := by simp; omega
  by_cases h0 : s < 0
  · clear h4 hf
    go_wp2
    go_ret
    exact ⟨rfl, hb1⟩
  have e5 : decide (s < 0) = false := by simpa using h0
  by_cases h3 : 3 ≤ s
  · have e6 : decide (3 ≤ s) = true := by simpa using h3
    clear h4 hf
    go_wp2
    go_ret
    exact ⟨rfl, hb1⟩
  have e6 : decide (3 ≤ s) = false := by simpa using h3
  by_cases g0 : gone < 0
  · have e7 : decide (gone < 0) = true := by simpa using g0
    clear h4 hf
    go_wp2
    go_ret
    exact ⟨rfl, hb1⟩
  have e7 : decide (gone < 0) = false := by simpa using g0
  by_cases g2 : 4 ≤ gone
  · have e9 : decide (4 ≤ gone) = true := by simpa using g2
    clear h4 hf
    go_wp2
    go_ret
    exact ⟨rfl, hb1⟩
  have e9 : decide (4 ≤ gone) = false := by simpa using g2
  obtain ⟨s, rfl⟩ := Int.eq_ofNat_of_zero_le (show 0 ≤ s by omega)
  obtain ⟨gone, rfl⟩ := Int.eq_ofNat_of_zero_le (show 0 ≤ gone by omega)
  have hs3 : s < 3 := by omega
  have hg4 : gone < 4 := by omega
  rw [h4] at hf hc ⊢
  have e10 : ((3 : Nat) : Int) = 3 := rfl
  rw [h4] at e4
  clear h0 h3 g0 g2
  go_wp2_with fail
  go_loopw [36] (fun i wr => ∃ k : Nat, k ≤ 3 ∧ i = .int .i64 k ∧ (∀ j, j < k → (three.getD j []).length = 4) ∧ Below w1.heap.size w1 wr) (fun i _ => 3 - (intOf i).toNat)
  case atStart => exact ⟨0, Nat.zero_le _, rfl, fun j hj => by omega, Below.refl _ _⟩
  case round =>
    obtain ⟨k, hk, rfl, hpre, hlw⟩ := hrel
    have HP := Lib.hid hpre
    have HLW := Lib.hid hlw
    have hbw := hb1.trans (hlw.mono hb1.size)
    clear hpre
    by_cases hlt : k < 3
    · have hkl : k < three.length := by omega
      have hbk : decide ((k : Int) < 3) = true := by simp; omega
      obtain ⟨b, off, u, rfl, _, hu, hR⟩ := (okBB.grow hf hlw).at_ hkl
      obtain ⟨A2, c2, rfl, _, _⟩ := hR.shape
      have HG := Lib.hid (show three.getD k [] = three[k] by simp [List.getD, List.getElem?_eq_getElem hkl])
      clear hlw
      by_cases hl4 : three[k].length = 4
      · have e11 : ((three[k].length : Int) != 4) = false := by simp; omega
        have HL := Lib.hid hl4
        clear hl4
        go_wp2
        go_roundw
        case rel => exact ⟨k + 1, by omega, by go_num, fun j hj => by rcases Nat.lt_succ_iff_lt_or_eq.1 hj with h | rfl; exact HP.out j h; rw [HG.out, HL.out], HLW.out⟩
        case measure => simp [intOf]; omega
      · have e11 : ((three[k].length : Int) != 4) = true := by simp; omega
        clear hl4
        go_wp2
        go_ret
        exact ⟨rfl, hbw⟩
    · obtain rfl : k = 3 := by omega
      have hB4 : Blocks4 three := fun b hb => by
        obtain ⟨j, hj, rfl⟩ := List.getElem_of_mem hb
        have := HP.out j (by omega)
        simpa [List.getD, List.getElem?_eq_getElem hj] using this
      have hDl : (three ++ [xorAll three]).length = 4 := by rw [List.length_append, h4]; rfl
      have hDB : Blocks4 (three ++ [xorAll three]) := fun b hb => by
        rcases List.mem_append.1 hb with hb | hb
        · exact hB4 b hb
        · simp at hb; rw [hb]; exact xorAll_length _
      obtain ⟨m1, m2⟩ := made_one (s := s) hDl hDB (xorAll_self three) hs3 hg4
      have m3 := (has_make hDl hDB (xorAll_self three) hs3).2
      have hf2 := okBB.grow hf hlw
      have HB4 := Lib.hid hB4
      have HM := Lib.hid (And.intro m1 (And.intro m2 m3))
      have HD := Lib.hid (And.intro hDl hDB)
      have H4 := Lib.hid h4
      have HBW := Lib.hid hbw
      have hwr := Nat.le_trans hb1.size hlw.size
      have hE := Bld.empty RdB 23 wr wr.heap.size (fun _ => True) (Nat.le_refl _)
      have hbe := below_alloc wr (.cells #[] 23)
      have hS0 : RdBB (wr.alloc (.cells #[] 23)) (fun k => some k ≠ (Value.slice (some ⟨wr.heap.size, 0, none⟩) 0 0).ownBlock ∧ True) (.slice A 3 c) three := okBB.mono (okBB.grow hf2 hbe) fun k hk => ⟨by have := hk.2; simp only [Value.ownBlock, ne_eq, Option.some.injEq]; omega, trivial⟩
      have HF := Lib.hid (okBB.grow hf2 hbe)
      have HBE := Lib.hid hbe
      clear hf hlw hB4 m1 m2 m3 hk hlt hb1 hDl hDB hf2 hbe
      rename World => w2
      go_wp2_with (at_builtin; refine wpList_append_bld (w2.alloc (.cells #[] 23)) rfl _ _ 22 (by rfl) okB slBB w2.heap.size (fun _ => True) (.slice (some ⟨w2.heap.size, 0, none⟩) 0 0) _ [] three (by rfl) (by rfl) hE hS0 ?c1 ?c2 ?c3)
      case c1 => have := H4.out; simp; omega
      case c2 => exact HBE.out.size
      case c3 =>
      intro v3 w3 hv3 hb3 hg3 ho3
      replace hv3 : Bld RdB 23 w3 w2.heap.size (fun _ => True) v3 three := hv3
      have hf3 : RdBB w3 (fun k => k < w.heap.size) (.slice A 3 c) three := okBB.below (okBB.mono HF.out fun k hk => hk.2) hb3 fun k hk _ => by omega
      have hb3' := HBE.out.trans hb3
      clear hE hS0 hg3 ho3
      go_wp2_with fail
      refine (ref_Xor three _ _ _ hf3 HB4.out).mono ?_
      rintro e w4 ⟨v4, rfl, hv4, hb4⟩
      have hr4 := (hv4.bytes (G' := fun k => w3.heap.size ≤ k)).toRd ok8 (F := fun k => w3.heap.size ≤ k) (fun _ hk => hk) (fun _ hk => hk)
      obtain ⟨A4, c4, rfl, _, _⟩ := hr4.shape
      have HV := Lib.hid (hv3.grow okB hb4)
      have HVB := Lib.hid hv3.blk
      have HR4 := Lib.hid hr4
      have HB34 := Lib.hid (hb3'.trans (hb4.mono hb3'.size))
      have HT := Lib.hid (show (three.length + 1) * 24 ≤ 140737488355328 by have := H4.out; omega)
      clear hv3 hv4 hr4 hb4 hb3 hb3' hf3
      go_wp2_with (at_builtin; refine wpList_append_oneG rfl _ _ 22 rfl okB slBB w2.heap.size (fun _ => True) _ _ (xorAll three) _ rfl (by rfl) (by rfl) HV.out (okB.mono HR4.out fun k hk => ⟨fun e => by have := (HVB.out k e.symm).2; omega, trivial⟩) (fun _ _ => trivial) HT.out HB34.out.size ?c1)
      case c1 =>
      intro v5 w5 hv5 hb5
      have hr5 := hv5.toRd_ okB
      have hb15 := HBW.out.trans ((HB34.out.trans hb5).mono HBW.out.size)
      obtain ⟨A5, c5, rfl, _, _⟩ := hr5.shape
      rw [HD.out.1] at hr5 ⊢
      have HR5 := Lib.hid hr5
      have HB5 := Lib.hid hb15
      clear hv5 hb5 hr5 hb15
      go_wp2_with fail
      refine (stripe_Make _ s _ _ _ HR5.out (by omega) (by rw [HD.out.1]; decide) HD.out.2).mono ?_
      rintro e w6 ⟨v6, rfl, hv6, hb6⟩
      have hml : (makeL (three ++ [xorAll three]) s).length = 4 := by rw [makeL_len, HD.out.1]
      have hv7 := hv6.bld_ okB (b := w5.heap.size) (fun _ hk => hk)
      obtain ⟨g, c6, rfl, hg0, hg1, hc6, hc6m⟩ := hv7.form (by omega)
      unfold maxLen at hc6m
      rw [hml] at hv7 hc6 ⊢
      have HD6 := Lib.hid (okBB.grow HR5.out hb6)
      have hb16 := HB5.out.trans (hb6.mono HB5.out.size)
      clear hv6 hb6
      go_wp2_with fail
      refine (stripe_Bad _ s _ _ _ (hv7.toRd_ okB) (by rw [hml]; decide)).mono ?_
      rintro e w7 ⟨v7, rfl, hv8, hb7⟩
      rw [HM.out.2.2] at hv8
      obtain ⟨A7, c7, rfl, _, _⟩ := (hv8.toRd_ okI).shape
      have hl0 : (ints []).length = 0 := rfl
      rw [hl0]
      have hv9 := hv7.grow okB hb7
      have hset := hv9.set_ okB (k := gone) (by rw [hml]; exact hg4) (u := .slice none 0 0) (x := []) (RdL.nil_ _ _ _ _ _ (by decide))
      obtain ⟨_, hf0, hf1, _⟩ := hv9.at_ (k := gone) (by rw [hml]; exact hg4)
      have hgw : w.heap.size ≤ g := Nat.le_trans HB5.out.size hg0
      have hb17 := (hb16.trans (hb7.mono hb16.size)).setCell (p := ⟨g, gone, none⟩) hgw (.slice none 0 0)
      have hD7 := okBB.setc (okBB.grow HD6.out hb7) (b := g) (j := gone) (v := .slice none 0 0) (fun k hk => by omega)
      have hl4 : ((makeL (three ++ [xorAll three]) s).set gone []).length = 4 := by rw [List.length_set, hml]
      have H := Lib.hid (And.intro (hset.toRd_ okB) (And.intro hD7 hb17))
      clear hv7 hv8 hv9 hset hb7 hb16 hb17 hD7
      rename World => w8
      go_wp2_with fail
      refine (stripe_Data _ s _ _ _ H.out.1 (by rw [hl4]; decide)).mono ?_
      rintro e w9 ⟨v9, rfl, hv9, hb9⟩
      rw [HM.out.2.1] at hv9 ⊢
      have hr9 := hv9.toRd_ okB
      have hD9 := okBB.grow H.out.2.1 hb9
      have hr10 := okBB.grow H.out.1 hb9
      have hb18 := H.out.2.2.trans (hb9.mono H.out.2.2.size)
      obtain ⟨A9, c9, rfl, _, _⟩ := hr9.shape
      rw [HD.out.1] at hr9 ⊢
      clear hv9 hb9 hf0 hf1
      go_wp2_with fail
      refine (ref_SameBytes _ _ _ _ (fun _ => True) _ (okBB.mono hr9 fun _ _ => trivial) (okBB.mono hD9 fun _ _ => trivial)).mono ?_
      rintro e w10 ⟨rfl, hb10⟩
      rw [beq_self_eq_true]
      have hr11 := okBB.grow hr10 hb10
      have hb19 := hb18.trans (hb10.mono hb18.size)
      clear hr9 hD9 hr10 hb10 hb18
      go_wp2_with fail
      refine (stripe_Bad _ s _ _ _ hr11 (by rw [hl4]; decide)).mono ?_
      rintro e w11 ⟨v11, rfl, hv11, hb11⟩
      rw [HM.out.1] at hv11
      obtain ⟨A11, c11, rfl, _, _⟩ := (hv11.toRd_ okI).shape
      have hl1 : (ints [gone]).length = 1 := rfl
      rw [hl1]
      have hb20 := hb19.trans (hb11.mono hb19.size)
      clear hv11 hr11 hb11 hb19
      go_wp2
      go_ret
      exact ⟨rfl, hb20⟩
namespace stripeOneDone
open Go.ChangeShapes Go.WideShapes Go.ChangeAt Go.RowKit M
open Go.ChangeMaps (open_string shut_string)
set_option linter.unusedVariables false
set_option maxRecDepth 100000 in
theorem lifted (os : Os) (started : os.Started) (H : Type) (enc : TypeId × Value → H) :
    ReturnsInHanded {} Try.checked os 8 .any (Rows.stripeOneSpec.pre6 enc Try.prog Try.f8 Rows.stripeOneRow.domain false) (Rows.stripeOneSpec.post enc Try.prog Try.f8 false true false false) := by
  refine returnsInHanded_of_change (C := Try.checked) own started (by kernel_rfl) Try.func8
    (ChangeSpec.witness6 (enc := enc) (C := Try.checked) false ⟨#[], #[.slice none 0 0, .int .i64 0, .int .i64 0], []⟩ 8 (by kernel_rfl) (by kernel_rfl) (by kernel_rfl) (by kernel_rfl)) ?_
  intro W base args ds gs before hval0 hW hcnd _
  have hval : ∀ (j : Nat) t v, Try.f8.params[j]? = some t → args[j]? = some v → Value.okWide Try.prog W .any base t v := hval0
  have hW' := hW
  obtain ⟨p, q, hA0, hV, rfl, hfz, hnd⟩ := hW
  have hA : DataW.TrodAll enc Try.prog W 0 (fun _ => true) true Try.f8.params.toList args.toList ds p := hA0
  rw [Try.params8] at hA hval
  obtain ⟨v0, vs0, d0, ds0, p0, q0, hargs, rfl, rfl, h0, r0⟩ := trodAll_cons hA
  obtain ⟨v1, vs1, d1, ds1, p1, q1, rfl, rfl, rfl, h1, r1⟩ := trodAll_cons r0
  obtain ⟨v2, vs2, d2, ds2, p2, q2, rfl, rfl, rfl, h2, r2⟩ := trodAll_cons r1
  obtain ⟨rfl, rfl, rfl⟩ := trodAll_nil r2
  obtain rfl : args = #[v0, v1, v2] := by cases args; simp_all
  obtain ⟨rfl, rfl⟩ := trodVars_none hV
  obtain ⟨a0, len0, cap0, rfl⟩ := okWide_slice Try.underlying22 (hval 0 22 v0 rfl rfl)
  have k0 := h0
  have lt0 : ∀ x ∈ p0, x.block < W.heap.size := by obtain ⟨m, hm⟩ := k0; exact DataW.trod_lt m _ _ _ hm
  obtain ⟨fuel0, hf0⟩ := h0
  obtain ⟨b0, w0, l0⟩ := M.open_BB Try.underlying22 (by kernel_rfl) Try.underlying23 Try.underlying5 (by kernel_rfl) hf0
  obtain ⟨a1, rfl, rfl, rfl, w1⟩ := open_int Try.underlying3 (hval 1 3 v1 rfl rfl) h1
  have b1 := bounds_i64 w1
  obtain ⟨a2, rfl, rfl, rfl, w2⟩ := open_int Try.underlying3 (hval 2 3 v2 rfl rfl) h2
  have b2 := bounds_i64 w2
  clear hA0 hval0
  refine (stripeOne_walk b0 _ a1 a2 W w0 b1.1 b1.2 b2.1 b2.2).mono fun e W' ⟨he, bel⟩ => ?_
  subst he
  exact ⟨_, rfl, _, _, _, [], _, [], hW', trodAll_mk1 (shut_bool Try.underlying4 _), (trodAll_cons_mk (Below.trod laidOut (by kernel_rfl) (of_decide_eq_true (by kernel_rfl)) k0 bel lt0) (trodAll_cons_mk (shut_int Try.underlying3 w1) (trodAll_cons_mk (shut_int Try.underlying3 w2) trodAll_mk0))), rfl, bel.frame _, fun h => by cases h⟩
theorem over : Rows.stripeOneRow.holds Try.pinned (OpenSpec.ofChange Rows.stripeOneSpec) :=
  OpenClaim.holds_of_wide 8 Try.f8 rfl rfl rfl rfl rfl rfl rfl ⟨rfl, rfl, rfl, rfl, rfl⟩ rfl rfl rfl rfl rfl (by kernel_rfl) Try.func8 (by kernel_rfl)
    (of_decide_eq_true (by kernel_rfl)) (by unfold Func.isWrapper; first | (rw [if_pos (by decide +kernel)]; kernel_rfl) | (rw [if_neg (by decide +kernel)]; exact ⟨rfl, rfl⟩))
    (fun os started H enc _ => lifted os started H enc)
/-- The statement. -/
theorem proved : Rows.StripeOneSaid := over
end stripeOneDone
end Go.Proofs.Ytlbnkoahkfhimaa

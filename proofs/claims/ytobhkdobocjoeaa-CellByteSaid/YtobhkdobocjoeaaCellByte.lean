/- Chapter 2: CellByte holds for every input: the call returns true, and each argument reads behind it as it read before. -/
import Derived.Test.YtobhkdobocjoeaaL2
import Derived.Test.YtobhkdobocjoeaaOpen
namespace Go.Proofs.Ytobhkdobocjoeaa
open Go Go.RowKit M

set_option maxHeartbeats 1600000 in
theorem cellByte_walk (d s : Int) (x : Bs) (vx : Value) (o at_ c : Int) (w : World) (_d0 : -9223372036854775808 ≤ d) (_d1 : d ≤ 9223372036854775807) (_s0 : -9223372036854775808 ≤ s) (_s1 : s ≤ 9223372036854775807) (hx : RdB w (fun _ => True) vx x)
    (_o0 : -9223372036854775808 ≤ o) (_o1 : o ≤ 9223372036854775807) (_w0 : -9223372036854775808 ≤ at_) (_w1 : at_ ≤ 9223372036854775807) (hc0 : 0 ≤ c) (hc1 : c ≤ 255) :
    Calls Try.prog 14 #[.int .i64 d, .int .i64 s, vx, .int .i64 o, .int .i64 at_, .int .u8 c] w fun e w' => e = .returned (.bool true) ∧ Below w.heap.size w w' := by
  obtain ⟨Ax, cx, rfl, _, _⟩ := hx.shape
  cases h1 : thereB d s with
  | false =>
    have H1 := Lib.hid h1
    clear h1
    go_enter Try.func14, Try.ntmps14
    go_wp2_with fail
    refine (law2_alive _).mono ?_
    rintro e w1 ⟨rfl, hl⟩
    go_wp2_with fail
    refine (cell_There d s _).mono ?_
    rintro e w2 ⟨rfl, rfl⟩
    rw [H1.out]
    go_wp2
    go_ret
    exact ⟨rfl, hl⟩
  | true =>
  obtain ⟨q0, q1, q2, q3⟩ := thereB_iff.1 h1
  obtain ⟨d, rfl⟩ := Int.eq_ofNat_of_zero_le q0
  obtain ⟨s, rfl⟩ := Int.eq_ofNat_of_zero_le q2
  have H1 := Lib.hid h1
  clear h1
  by_cases h4 : x.length = 4
  rotate_left
  · have h4' : ((x.length : Int) != 4) = true := by simp; omega
    clear h4
    go_enter Try.func14, Try.ntmps14
    go_wp2_with fail
    refine (law2_alive _).mono ?_
    rintro e w1 ⟨rfl, hl⟩
    go_wp2_with fail
    refine (cell_There d s _).mono ?_
    rintro e w2 ⟨rfl, rfl⟩
    rw [H1.out]
    go_wp2
    go_ret
    exact ⟨rfl, hl⟩
  rw [h4] at hx ⊢
  have hbl : (cellB d s x).length = 8 := by rw [cellB_length, h4]
  have hrd := readC_cellB d s h4 (by omega) (by omega)
  have hro := fun (ho : o ≠ d) => readC_other d s h4 (by omega) ho
  have hset := fun (i : Nat) (c : UInt8) (hi : i < (cellB d s x).length) (hne : (cellB d s x)[i] ≠ c) => readC_set d s hi hne (d : Int) (s : Int)
  have H4 := Lib.hid h4
  have HB := Lib.hid hbl
  have HR := Lib.hid hrd
  have HO := Lib.hid hro
  have HS := Lib.hid hset
  clear h4 hbl hrd hro hset
  go_enter Try.func14, Try.ntmps14
  go_wp2_with fail
  refine (law2_alive _).mono ?_
  rintro e w1 ⟨rfl, hl⟩
  go_wp2_with fail
  refine (cell_There d s _).mono ?_
  rintro e w2 ⟨rfl, rfl⟩
  rw [H1.out]
  replace hx := okB.grow hx hl
  go_wp2_with fail
  refine (cell_Bytes d s x _ _ _ hx (by omega) (by omega) (by rw [H4.out]; decide)).mono ?_
  rintro e w2 ⟨vb, rfl, hvb, hl2⟩
  obtain ⟨g, cb, rfl, hg, _, _, _⟩ := hvb.form (by rw [HB.out]; decide)
  rw [HB.out] at hvb ⊢
  replace hx := okB.grow hx hl2
  have hgl := Nat.le_trans hl.size hg
  replace hl2 := hl.trans (hl2.mono hl.size)
  go_wp2_with fail
  refine (cell_Read (cellB d s x) d s _ _ _ (hvb.toRd_ ok8)).mono ?_
  rintro e w3 ⟨v3, rfl, hv3, hl3⟩
  rw [HR.out] at hv3 ⊢
  replace hx := okB.grow hx hl3
  replace hvb := hvb.grow ok8 hl3
  replace hl2 := hl2.trans (hl3.mono hl2.size)
  have hc3 := run_conv (hv3.toRd_ ok8) Try.underlying22 Try.underlying5 Try.underlying9
  have hcx := run_conv hx Try.underlying22 Try.underlying5 Try.underlying9
  clear hv3 hl3 hx
  go_wp2_with fail
  clear hc3 hcx
  refine (cell_Read (cellB d s x) o s _ _ _ (hvb.toRd_ ok8)).mono ?_
  rintro e w4 ⟨v4, rfl, _, hl4⟩
  replace hvb := hvb.grow ok8 hl4
  replace hl2 := hl2.trans (hl4.mono hl2.size)
  clear hl4
  by_cases ho : o = d
  · subst ho
    rw [HR.out]
    have ho' : ((d : Int) != (d : Int)) = false := by simp
    by_cases hin : 0 ≤ at_ ∧ at_ < 8
    rotate_left
    · clear hvb
      go_wp2
      all_goals
        go_ret
        exact ⟨rfl, hl2⟩
    obtain ⟨hin0, hin1⟩ := hin
    obtain ⟨n, rfl⟩ := Int.eq_ofNat_of_zero_le hin0
    have hn : n < (cellB d s x).length := by rw [HB.out]; omega
    obtain ⟨u, hu, hfz, hRu⟩ := hvb.at_ hn
    cases hRu
    have a0 := at8_get hn
    unfold B8 at hu
    rw [← a0] at hu
    have a1 := at8_lo (cellB d s x) n
    have a2 := at8_hi (cellB d s x) n
    by_cases hxc : at8 (cellB d s x) n = c
    · have hx' : (at8 (cellB d s x) n == c) = true := by simpa using hxc
      clear hxc a0 hvb
      go_wp2
      go_ret
      exact ⟨rfl, hl2⟩
    · have hx' : (at8 (cellB d s x) n == c) = false := by simpa using hxc
      have hcu : (((UInt8.ofNat c.toNat).toNat : Nat) : Int) = c := by rw [UInt8.toNat_ofNat']; omega
      have hfin := HS.out n (UInt8.ofNat c.toNat) hn (fun e => by apply hxc; rw [a0, e, hcu])
      have hset := hvb.set_ ok8 hn (u := .int .u8 c) (x := UInt8.ofNat c.toNat) (by unfold R8 B8; rw [hcu])
      have hr2 := hset.toRd_ ok8
      have hl3 := hl2.setCell (p := ⟨g, n, none⟩) hgl (.int .u8 c)
      have HF := Lib.hid hfin
      clear hxc a0 hcu hvb hset hfin
      go_wp2_with (go_at_call 36; refine (cell_Read _ d s _ _ _ hr2).mono ?_; rintro e w5 ⟨v5, rfl, _, hb5⟩; rw [HF.out])
      have hl4 := hl3.trans (hb5.mono hl3.size)
      go_ret
      exact ⟨rfl, hl4⟩
  · rw [HO.out ho]
    have ho' : (o != (d : Int)) = true := by simpa using ho
    clear ho
    by_cases hin : 0 ≤ at_ ∧ at_ < 8
    rotate_left
    · clear hvb
      go_wp2
      all_goals
        go_ret
        exact ⟨rfl, hl2⟩
    obtain ⟨hin0, hin1⟩ := hin
    obtain ⟨n, rfl⟩ := Int.eq_ofNat_of_zero_le hin0
    have hn : n < (cellB d s x).length := by rw [HB.out]; omega
    obtain ⟨u, hu, hfz, hRu⟩ := hvb.at_ hn
    cases hRu
    have a0 := at8_get hn
    unfold B8 at hu
    rw [← a0] at hu
    have a1 := at8_lo (cellB d s x) n
    have a2 := at8_hi (cellB d s x) n
    by_cases hxc : at8 (cellB d s x) n = c
    · have hx' : (at8 (cellB d s x) n == c) = true := by simpa using hxc
      clear hxc a0 hvb
      go_wp2
      go_ret
      exact ⟨rfl, hl2⟩
    · have hx' : (at8 (cellB d s x) n == c) = false := by simpa using hxc
      have hcu : (((UInt8.ofNat c.toNat).toNat : Nat) : Int) = c := by rw [UInt8.toNat_ofNat']; omega
      have hfin := HS.out n (UInt8.ofNat c.toNat) hn (fun e => by apply hxc; rw [a0, e, hcu])
      have hset := hvb.set_ ok8 hn (u := .int .u8 c) (x := UInt8.ofNat c.toNat) (by unfold R8 B8; rw [hcu])
      have hr2 := hset.toRd_ ok8
      have hl3 := hl2.setCell (p := ⟨g, n, none⟩) hgl (.int .u8 c)
      have HF := Lib.hid hfin
      clear hxc a0 hcu hvb hset hfin
      go_wp2_with (go_at_call 36; refine (cell_Read _ d s _ _ _ hr2).mono ?_; rintro e w5 ⟨v5, rfl, _, hb5⟩; rw [HF.out])
      have hl4 := hl3.trans (hb5.mono hl3.size)
      go_ret
      exact ⟨rfl, hl4⟩
namespace cellByteDone
open Go.ChangeShapes Go.WideShapes Go.ChangeAt Go.RowKit M
open Go.ChangeMaps (open_string shut_string)
set_option linter.unusedVariables false
set_option maxRecDepth 100000 in
theorem lifted (os : Os) (started : os.Started) (H : Type) (enc : TypeId × Value → H) :
    ReturnsInHanded {} Try.checked os 14 .any (Rows.cellByteSpec.pre6 enc Try.prog Try.f14 Rows.cellByteRow.domain false) (Rows.cellByteSpec.post enc Try.prog Try.f14 false true false false) := by
  refine returnsInHanded_of_change (C := Try.checked) own started (by kernel_rfl) Try.func14
    (ChangeSpec.witness6 (enc := enc) (C := Try.checked) false ⟨#[], #[.int .i64 0, .int .i64 0, .slice none 0 0, .int .i64 0, .int .i64 0, .int .u8 0], []⟩ 8 (by kernel_rfl) (by kernel_rfl) (by kernel_rfl) (by kernel_rfl)) ?_
  intro W base args ds gs before hval0 hW hcnd _
  have hval : ∀ (j : Nat) t v, Try.f14.params[j]? = some t → args[j]? = some v → Value.okWide Try.prog W .any base t v := hval0
  have hW' := hW
  obtain ⟨p, q, hA0, hV, rfl, hfz, hnd⟩ := hW
  have hA : DataW.TrodAll enc Try.prog W 0 (fun _ => true) true Try.f14.params.toList args.toList ds p := hA0
  rw [Try.params14] at hA hval
  obtain ⟨v0, vs0, d0, ds0, p0, q0, hargs, rfl, rfl, h0, r0⟩ := trodAll_cons hA
  obtain ⟨v1, vs1, d1, ds1, p1, q1, rfl, rfl, rfl, h1, r1⟩ := trodAll_cons r0
  obtain ⟨v2, vs2, d2, ds2, p2, q2, rfl, rfl, rfl, h2, r2⟩ := trodAll_cons r1
  obtain ⟨v3, vs3, d3, ds3, p3, q3, rfl, rfl, rfl, h3, r3⟩ := trodAll_cons r2
  obtain ⟨v4, vs4, d4, ds4, p4, q4, rfl, rfl, rfl, h4, r4⟩ := trodAll_cons r3
  obtain ⟨v5, vs5, d5, ds5, p5, q5, rfl, rfl, rfl, h5, r5⟩ := trodAll_cons r4
  obtain ⟨rfl, rfl, rfl⟩ := trodAll_nil r5
  obtain rfl : args = #[v0, v1, v2, v3, v4, v5] := by cases args; simp_all
  obtain ⟨rfl, rfl⟩ := trodVars_none hV
  obtain ⟨a0, rfl, rfl, rfl, w0⟩ := open_int Try.underlying3 (hval 0 3 v0 rfl rfl) h0
  have b0 := bounds_i64 w0
  obtain ⟨a1, rfl, rfl, rfl, w1⟩ := open_int Try.underlying3 (hval 1 3 v1 rfl rfl) h1
  have b1 := bounds_i64 w1
  obtain ⟨a2, len2, cap2, rfl⟩ := okWide_slice Try.underlying22 (hval 2 22 v2 rfl rfl)
  have k2 := h2
  have lt2 : ∀ x ∈ p2, x.block < W.heap.size := by obtain ⟨m, hm⟩ := k2; exact DataW.trod_lt m _ _ _ hm
  obtain ⟨fuel2, hf2⟩ := h2
  obtain ⟨b2, w2, l2⟩ := M.open_B Try.underlying22 Try.underlying5 (by kernel_rfl) hf2
  obtain ⟨a3, rfl, rfl, rfl, w3⟩ := open_int Try.underlying3 (hval 3 3 v3 rfl rfl) h3
  have b3 := bounds_i64 w3
  obtain ⟨a4, rfl, rfl, rfl, w4⟩ := open_int Try.underlying3 (hval 4 3 v4 rfl rfl) h4
  have b4 := bounds_i64 w4
  obtain ⟨a5, rfl, rfl, rfl, w5⟩ := open_int Try.underlying5 (hval 5 5 v5 rfl rfl) h5
  have b5 := bounds_u8 w5
  clear hA0 hval0
  refine (cellByte_walk a0 a1 b2 _ a3 a4 a5 W b0.1 b0.2 b1.1 b1.2 w2 b3.1 b3.2 b4.1 b4.2 b5.1 b5.2).mono fun e W' ⟨he, bel⟩ => ?_
  subst he
  exact ⟨_, rfl, _, _, _, [], _, [], hW', trodAll_mk1 (shut_bool Try.underlying4 _), (trodAll_cons_mk (shut_int Try.underlying3 w0) (trodAll_cons_mk (shut_int Try.underlying3 w1) (trodAll_cons_mk (Below.trod laidOut (by kernel_rfl) (of_decide_eq_true (by kernel_rfl)) k2 bel lt2) (trodAll_cons_mk (shut_int Try.underlying3 w3) (trodAll_cons_mk (shut_int Try.underlying3 w4) (trodAll_cons_mk (shut_int Try.underlying5 w5) trodAll_mk0)))))), rfl, bel.frame _, fun h => by cases h⟩
theorem over : Rows.cellByteRow.holds Try.pinned (OpenSpec.ofChange Rows.cellByteSpec) :=
  OpenClaim.holds_of_wide 14 Try.f14 rfl rfl rfl rfl rfl rfl rfl ⟨rfl, rfl, rfl, rfl, rfl⟩ rfl rfl rfl rfl rfl (by kernel_rfl) Try.func14 (by kernel_rfl)
    (of_decide_eq_true (by kernel_rfl)) (by unfold Func.isWrapper; first | (rw [if_pos (by decide +kernel)]; kernel_rfl) | (rw [if_neg (by decide +kernel)]; exact ⟨rfl, rfl⟩))
    (fun os started H enc _ => lifted os started H enc)
/-- The statement. -/
theorem proved : Rows.CellByteSaid := over
end cellByteDone
end Go.Proofs.Ytobhkdobocjoeaa

/- Chapter 1: SumByte holds for every input: the call returns true, and each argument reads behind it as it read before. -/
import Derived.Test.YtobhkdobocjoeaaC1
import Derived.Test.YtobhkdobocjoeaaOpen
namespace Go.Proofs.Ytobhkdobocjoeaa
open Go Go.RowKit M

theorem sum1_alive (w : World) : Calls Try.prog 21 #[] w fun e w' => e = .returned (.bool true) ∧ Below w.heap.size w w' := by
  have kc := fun (w : World) (C : Array Value) (n c : Nat) => Lib.run_convert_bytes_const (P := Try.prog) w 22 5 C n c Try.underlying22 Try.underlying5
  go_enter Try.func21, Try.ntmps21
  go_wp2_with fail
  clear kc
  have h0 : RdB (w.alloc (.cells #[.int .u8 97, .int .u8 98] 5 (2, 3))) (fun _ => True) (.slice (some ⟨w.heap.size, 0, none⟩) 2 2) [97, 98] := rd_const w [97, 98] _ _ (by simp [maxLen])
  have hw0 := below_alloc w (.cells #[.int .u8 97, .int .u8 98] 5 (2, 3))
  refine (sum_Seal _ _ _ _ h0 (by simp)).mono ?_
  rintro e w1 ⟨v1, rfl, hv1, hb1⟩
  replace hw0 := hw0.trans (hb1.mono hw0.size)
  clear h0 hb1
  obtain ⟨g, c, rfl, _, _, hc, _⟩ := hv1.form (by rw [sealB_length]; decide)
  have hr := hv1.toRd_ ok8
  have hl : (sealB [97, 98]).length = 4 := rfl
  rw [hl] at hr ⊢
  clear hv1 hc hl
  go_wp2_with fail
  refine (sum_Of [] _ (fun _ => True) _ (RdL.nil_ _ _ _ _ _ (by simp [maxLen]))).mono ?_
  rintro e w2 ⟨rfl, rfl⟩
  rw [show ((sumOf [] : Nat) : Int) = 13 from rfl]
  go_wp2_with fail
  refine (sum_Sealed _ _ _ _ hr).mono ?_
  rintro e w2 ⟨rfl, rfl⟩
  rw [sealedB_sealB]
  go_wp2_with fail
  refine (sum_Sealed [] _ (fun _ => True) _ (RdL.nil_ _ _ _ _ _ (by simp [maxLen]))).mono ?_
  rintro e w2 ⟨rfl, rfl⟩
  rw [show sealedB [] = false from rfl]
  go_wp2
  go_ret
  exact ⟨rfl, hw0⟩
set_option maxHeartbeats 800000 in
theorem sumByte_walk (b : Bs) (v : Value) (at_ c : Int) (w : World) (h : RdB w (fun _ => True) v b) (hlen : b.length ≤ 140737488351232) (_ha0 : -9223372036854775808 ≤ at_) (_ha1 : at_ ≤ 9223372036854775807) (hc0 : 0 ≤ c) (hc1 : c ≤ 255) :
    Calls Try.prog 4 #[v, .int .i64 at_, .int .u8 c] w fun e w' => e = .returned (.bool true) ∧ Below w.heap.size w w' := by
  obtain ⟨A, cc, rfl, _, _⟩ := h.shape
  go_enter Try.func4, Try.ntmps4
  go_wp2_with fail
  refine (sum1_alive w).mono ?_
  rintro e w1 ⟨rfl, hl1⟩
  go_wp2_with fail
  refine (sum_Seal _ _ _ _ (okB.grow h hl1) (by omega)).mono ?_
  rintro e w2 ⟨v1, rfl, hv1, hb1⟩
  have hl2 := hl1.trans (hb1.mono hl1.size)
  have hsl := sealB_length b
  obtain ⟨g, c1, rfl, hg, _, _, _⟩ := hv1.form (by omega)
  have hr := hv1.toRd_ ok8
  have HL := Lib.hid hsl
  rw [hsl] at hr hv1 ⊢
  clear hsl hb1 h
  go_wp2_with fail
  refine (sum_Sealed _ _ _ _ hr).mono ?_
  rintro e w3 ⟨rfl, rfl⟩
  rw [sealedB_sealB]
  by_cases hin : 0 ≤ at_ ∧ at_ < b.length + 2
  · obtain ⟨hin0, hin1⟩ := hin
    obtain ⟨n, rfl⟩ := Int.eq_ofNat_of_zero_le hin0
    have hn : n < (sealB b).length := by rw [HL.out]; omega
    obtain ⟨u, hu, hfz, hR⟩ := hv1.at_ hn
    cases hR
    have a0 := at8_get hn
    unfold B8 at hu
    rw [← a0] at hu
    have a1 := at8_lo (sealB b) n
    have a2 := at8_hi (sealB b) n
    by_cases hx : at8 (sealB b) n = c
    · have hx' : (at8 (sealB b) n == c) = true := by simpa using hx
      clear hx a0 hr hv1
      go_wp2
      go_ret
      exact ⟨rfl, hl2⟩
    · have hx' : (at8 (sealB b) n == c) = false := by simpa using hx
      have hcu : (((UInt8.ofNat c.toNat).toNat : Nat) : Int) = c := by rw [UInt8.toNat_ofNat']; omega
      have hfin : sealedB ((sealB b).set n (UInt8.ofNat c.toNat)) = false := sealedB_set hn (fun e => by
        apply hx; rw [a0, e, hcu])
      have hset := hv1.set_ ok8 hn (u := .int .u8 c) (x := UInt8.ofNat c.toNat) (by unfold R8 B8; rw [hcu])
      have hr2 := hset.toRd_ ok8
      have hls : ((sealB b).set n (UInt8.ofNat c.toNat)).length = b.length + 2 := by rw [List.length_set]; exact HL.out
      have hl3 := hl2.setCell (p := ⟨g, n, none⟩) (Nat.le_trans hl1.size hg) (.int .u8 c)
      have HF := Lib.hid hfin
      clear hx a0 hcu hr hv1 hset hfin hls
      go_wp2_with (go_at_call 19; refine (sum_Sealed _ _ _ _ hr2).mono ?_; rintro e w4 ⟨rfl, rfl⟩; rw [HF.out])
      go_ret
      exact ⟨rfl, hl3⟩
  · clear hr hv1
    go_wp2
    all_goals
      go_ret
      exact ⟨rfl, hl2⟩
namespace sumByteDone
open Go.ChangeShapes Go.WideShapes Go.ChangeAt Go.RowKit M
open Go.ChangeMaps (open_string shut_string)
set_option linter.unusedVariables false
set_option maxRecDepth 100000 in
theorem lifted (os : Os) (started : os.Started) (H : Type) (enc : TypeId × Value → H) :
    ReturnsInHanded {} Try.checked os 4 .any (Rows.sumByteSpec.pre6 enc Try.prog Try.f4 Rows.sumByteRow.domain false) (Rows.sumByteSpec.post enc Try.prog Try.f4 false true false false) := by
  refine returnsInHanded_of_change_sized (C := Try.checked) own started (by kernel_rfl) Try.func4
    (ChangeSpec.witness6 (enc := enc) (C := Try.checked) false ⟨#[], #[.slice none 0 0, .int .i64 0, .int .u8 0], []⟩ 8 (by kernel_rfl) (by kernel_rfl) (by kernel_rfl) (by kernel_rfl)) ?_
  intro W base args ds gs before hval0 hW hcnd hsz0 _
  have hval : ∀ (j : Nat) t v, Try.f4.params[j]? = some t → args[j]? = some v → Value.okWide Try.prog W .any base t v := hval0
  have hsz : (DataW.weightsEach Try.prog (Try.f4.params.toList ++ Rows.sumByteSpec.plain.varTypes Try.prog) (ds ++ gs)).all (· ≤ reachBytes) = true := hsz0
  have hW' := hW
  obtain ⟨p, q, hA0, hV, rfl, hfz, hnd⟩ := hW
  have hA : DataW.TrodAll enc Try.prog W 0 (fun _ => true) true Try.f4.params.toList args.toList ds p := hA0
  rw [Try.params4] at hA hval hsz
  obtain ⟨v0, vs0, d0, ds0, p0, q0, hargs, rfl, rfl, h0, r0⟩ := trodAll_cons hA
  obtain ⟨v1, vs1, d1, ds1, p1, q1, rfl, rfl, rfl, h1, r1⟩ := trodAll_cons r0
  obtain ⟨v2, vs2, d2, ds2, p2, q2, rfl, rfl, rfl, h2, r2⟩ := trodAll_cons r1
  obtain ⟨rfl, rfl, rfl⟩ := trodAll_nil r2
  obtain rfl : args = #[v0, v1, v2] := by cases args; simp_all
  obtain ⟨rfl, rfl⟩ := trodVars_none hV
  obtain ⟨a0, len0, cap0, rfl⟩ := okWide_slice Try.underlying22 (hval 0 22 v0 rfl rfl)
  have k0 := h0
  have lt0 : ∀ x ∈ p0, x.block < W.heap.size := by obtain ⟨m, hm⟩ := k0; exact DataW.trod_lt m _ _ _ hm
  obtain ⟨fuel0, hf0⟩ := h0
  obtain ⟨b0, w0, l0⟩ := M.open_B Try.underlying22 Try.underlying5 (by kernel_rfl) hf0
  have z0 : b0.length ≤ 140737488351232 := by
    rcases l0 with ⟨_, hl⟩ | ⟨elems, sp, hd, hl⟩
    · omega
    · subst hd
      have hh := sized_slice hsz (j := 0) (t := 22) (e := 5) rfl rfl Try.underlying22
      rw [show Try.prog.bytesOf 5 = 1 by kernel_rfl] at hh
      simp only [reachBytes] at hh
      omega
  obtain ⟨a1, rfl, rfl, rfl, w1⟩ := open_int Try.underlying3 (hval 1 3 v1 rfl rfl) h1
  have b1 := bounds_i64 w1
  obtain ⟨a2, rfl, rfl, rfl, w2⟩ := open_int Try.underlying5 (hval 2 5 v2 rfl rfl) h2
  have b2 := bounds_u8 w2
  clear hA0 hval0
  refine (sumByte_walk b0 _ a1 a2 W w0 z0 b1.1 b1.2 b2.1 b2.2).mono fun e W' ⟨he, bel⟩ => ?_
  subst he
  exact ⟨_, rfl, _, _, _, [], _, [], hW', trodAll_mk1 (shut_bool Try.underlying4 _), (trodAll_cons_mk (Below.trod laidOut (by kernel_rfl) (of_decide_eq_true (by kernel_rfl)) k0 bel lt0) (trodAll_cons_mk (shut_int Try.underlying3 w1) (trodAll_cons_mk (shut_int Try.underlying5 w2) trodAll_mk0))), rfl, bel.frame _, fun h => by cases h⟩
theorem over : Rows.sumByteRow.holds Try.pinned (OpenSpec.ofChange Rows.sumByteSpec) :=
  OpenClaim.holds_of_wide 4 Try.f4 rfl rfl rfl rfl rfl rfl rfl ⟨rfl, rfl, rfl, rfl, rfl⟩ rfl rfl rfl rfl rfl (by kernel_rfl) Try.func4 (by kernel_rfl)
    (of_decide_eq_true (by kernel_rfl)) (by unfold Func.isWrapper; first | (rw [if_pos (by decide +kernel)]; kernel_rfl) | (rw [if_neg (by decide +kernel)]; exact ⟨rfl, rfl⟩))
    (fun os started H enc _ => lifted os started H enc)
/-- The statement. -/
theorem proved : Rows.SumByteSaid := over
end sumByteDone
end Go.Proofs.Ytobhkdobocjoeaa

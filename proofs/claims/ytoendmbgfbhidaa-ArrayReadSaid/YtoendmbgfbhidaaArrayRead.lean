/- Chapter 8: ArrayRead holds for every input: the call returns true, and each argument reads behind it as it read before. -/
import Derived.Test.YtoendmbgfbhidaaL8b
import Derived.Test.YtoendmbgfbhidaaOpenS
import Derived.Test.YtoendmbgfbhidaaZg
namespace Go.Proofs.Ytoendmbgfbhidaa
set_option linter.unusedVariables false
open Go Go.RowKit M
theorem gone_there {a : Arr} {d : Nat} (h : d < 4) : (goneA a (d : Nat)).2 = 0 := by unfold goneA; rw [if_neg (by omega)]
set_option maxRecDepth 100000 in
set_option maxHeartbeats 3200000 in
theorem arrayRead_walk (l : List Step) (vl : Value) (b : Int) (w : World) (hl : RdSts w (fun _ => True) vl l) (_ : -9223372036854775808 ≤ b) (_ : b ≤ 9223372036854775807) :
    Calls Try.prog 6 #[vl, .int .i64 b] w fun e w' => e = .returned (.bool true) ∧ Below w.heap.size w w' := by
  obtain ⟨Ast, cst, rfl, _, _⟩ := id hl
  have HL0 := Lib.hid hl
  have HBel := Lib.hid (Below.refl w.heap.size w)
  clear hl
  go_enter Try.func6, Try.ntmps6
  go_wp2_with fail
  refine (law8_alive _).mono ?_
  rintro e w0 ⟨rfl, hb⟩
  replace HBel := Lib.hid (HBel.out.trans (hb.mono HBel.out.size))
  have HL := Lib.hid (HL0.out.below hb fun _ _ hk => hk)
  clear hb HL0
  go_wp2_with fail
  obtain ⟨Q, hgd, hcalm⟩ := good_gentlyA l
  refine (ref_PlayGently l _ _ _ HL.out).mono ?_
  rintro e waA ⟨vA, rfl, hr, hb⟩
  obtain ⟨bA, oA, cA, AA, dA, rfl, _, _, hcA, hmA⟩ := RdA_open hr hgd.shape
  rw [show (gentlyA l).ints.length = 0 by rw [hgd.none_]; rfl] at hr ⊢
  have ord0A : w.heap.size ≤ waA.heap.size := Nat.le_trans HBel.out.size hb.size
  have hal := below_alloc waA (.cells #[.slice (some ⟨bA, oA, none⟩) 4 cA, .slice AA 0 dA] 30)
  have hX := boxAt_new waA 30 [.slice (some ⟨bA, oA, none⟩) 4 cA, .slice AA 0 dA]
  have hbb := hb.trans (hal.mono hb.size)
  have hrl := hr.lt.mono (F' := fun k => w.heap.size ≤ k ∧ k < waA.heap.size) fun k hk => by have := HBel.out.size;  omega
  have HRdA := Lib.hid (hrl.grow hal)
  replace HBel := Lib.hid (HBel.out.trans (hbb.mono HBel.out.size))
  obtain ⟨wA, hwA⟩ : ∃ x, waA.alloc (.cells #[.slice (some ⟨bA, oA, none⟩) 4 cA, .slice AA 0 dA] 30) = x := ⟨_, rfl⟩
  change BoxAt (waA.alloc (.cells #[.slice (some ⟨bA, oA, none⟩) 4 cA, .slice AA 0 dA] 30)) _ _ _ at hX
  rw [hwA] at hX HRdA HBel   
  have HBxA := Lib.hid hX
  clear hal hX hbb hr hb hrl
  obtain ⟨pA0, pA1, pA2, pA3⟩ := HBxA.out.two
  go_wp2_with fail
  clear hwA
  generalize gentlyA l = a at *
  have HSN := Lib.hid (And.intro hgd.shape hgd.none_)
  have HGD := Lib.hid (And.intro hgd hcalm)
  clear hgd hcalm
  by_cases hin : 0 ≤ b ∧ b < 9
  rotate_left
  · refine (ref_Where_no b _ (by omega)).mono ?_
    rintro e wN ⟨rfl, hb⟩
    replace HBel := Lib.hid (HBel.out.trans (hb.mono HBel.out.size))
    clear hb hin
    go_wp2
    go_ret
    exact ⟨rfl, HBel.out⟩
  obtain ⟨n, rfl⟩ : ∃ n : Nat, b = n := ⟨b.toNat, by omega⟩
  have hn9 : n < 9 := by omega
  obtain ⟨x, hx⟩ : ∃ x, whereN n = x := ⟨_, rfl⟩
  have hx4 : x < 4 := by rw [← hx]; exact (whereN_ne hn9).2
  obtain ⟨s, hs⟩ : ∃ s, n / 3 = s := ⟨_, rfl⟩
  have hs3 : s < 3 := by omega
  clear hin
  refine (ref_Where n _ hn9).mono ?_
  rintro e wq1 ⟨rfl, hb⟩
  rw [where_eq, hs, hx]
  replace HBxA := Lib.hid (HBxA.out.grow hb)
  replace HRdA := Lib.hid (HRdA.out.grow hb)
  replace HBel := Lib.hid (HBel.out.trans (hb.mono HBel.out.size))
  clear pA0 pA1 pA2 pA3
  clear hb
  obtain ⟨pA0, pA1, pA2, pA3⟩ := HBxA.out.two
  go_wp2_with fail
  refine (ref_Worst a _ _ _ HRdA.out HSN.out.1).mono ?_
  rintro e wq2 ⟨rfl, hb⟩
  replace HBxA := Lib.hid (HBxA.out.grow hb)
  replace HRdA := Lib.hid (HRdA.out.grow hb)
  replace HBel := Lib.hid (HBel.out.trans (hb.mono HBel.out.size))
  clear pA0 pA1 pA2 pA3
  clear hb
  obtain ⟨pA0, pA1, pA2, pA3⟩ := HBxA.out.two
  by_cases hw0 : worstA a.disks = 0
  rotate_left
  · have hd : decide ((0 : Int) < ((worstA a.disks : Nat) : Int)) = true := by simp; omega
    clear hw0
    generalize ((worstA a.disks : Nat) : Int) = ww at *
    go_wp2
    go_ret
    exact ⟨rfl, HBel.out⟩
  have hga := good_read HGD.out.1 hn9 (HGD.out.2 _ (by omega))
  obtain ⟨hgg, hwg⟩ := one_gone HGD.out.1 hw0 (gone_there (a := a) hx4)
  have hgx := good_read hgg hn9 ((calm_iff.1 (by rw [hwg]; exact Nat.le_refl _)) _ (by omega))
  have H := HGD.out.1.has s hs3
  rw [hs, hx] at hga hgx
  obtain ⟨blk, hblk⟩ : ∃ blk, (Q s).getD x [] = blk := ⟨_, rfl⟩
  have hl4 : blk.length = 4 := by
    rw [← hblk]
    have hlt : x < (Q s).length := by rw [H.dlen]; exact hx4
    have : (Q s).getD x [] = (Q s)[x] := by simp [List.getD, hlt]
    rw [this]
    exact H.blk _ (List.getElem_mem hlt)
  rw [hblk] at hga hgx
  have HGA := Lib.hid hga
  have HGX := Lib.hid hgx
  have HSX := Lib.hid (And.intro hgg.shape hgg.none_)
  have HL4 := Lib.hid hl4
  rw [hw0]
  have hge : decide ((0 : Int) ≤ (s : Int)) = true := by simp
  clear hw0 hga hgx hgg hwg H hblk hl4 hs hx
  go_wp2_with fail
  refine (array_Read a (n : Nat) _ _ _ HRdA.out HSN.out.1).mono ?_
  rintro e wb1 ⟨vb1, rfl, hrb, hb⟩
  rw [HGA.out] at hrb ⊢
  obtain ⟨Ab1, cb1, rfl, _, _⟩ := hrb.shape
  replace HBxA := Lib.hid (HBxA.out.grow hb)
  replace HRdA := Lib.hid (HRdA.out.grow hb)
  replace HBel := Lib.hid (HBel.out.trans (hb.mono HBel.out.size))
  clear pA0 pA1 pA2 pA3
  have HV1 := Lib.hid (okB.mono hrb (F' := fun _ => True) fun _ _ => trivial)
  rw [HL4.out] at HV1 ⊢
  clear hrb hb
  obtain ⟨pA0, pA1, pA2, pA3⟩ := HBxA.out.two
  go_wp2_with fail
  refine (ref_Gone a (x : Nat) _ _ _ HRdA.out HSN.out.1).mono ?_
  rintro e waX ⟨vX, rfl, hr, hb⟩
  obtain ⟨bX, oX, cX, AX, dX, rfl, _, _, hcX, hmX⟩ := RdA_open hr HSX.out.1
  rw [show (goneA a (x : Nat)).1.ints.length = 0 by rw [HSX.out.2]; rfl] at hr ⊢
  have ord0X : w.heap.size ≤ waX.heap.size := Nat.le_trans HBel.out.size hb.size
  have ordAX : waA.heap.size < waX.heap.size := Nat.lt_of_lt_of_le HBxA.out.lt hb.size
  have hal := below_alloc waX (.cells #[.slice (some ⟨bX, oX, none⟩) 4 cX, .slice AX 0 dX] 30)
  have hX := boxAt_new waX 30 [.slice (some ⟨bX, oX, none⟩) 4 cX, .slice AX 0 dX]
  have hbb := hb.trans (hal.mono hb.size)
  have hrl := hr.lt.mono (F' := fun k => w.heap.size ≤ k) fun k hk => by have := HBel.out.size; have := HBxA.out.lt; omega
  have HRdX := Lib.hid (hrl.grow hal)
  replace HBxA := Lib.hid (HBxA.out.grow hbb)
  replace HRdA := Lib.hid (HRdA.out.grow hbb)
  replace HBel := Lib.hid (HBel.out.trans (hbb.mono HBel.out.size))
  replace HV1 := Lib.hid (okB.grow HV1.out hbb)
  clear pA0 pA1 pA2 pA3
  obtain ⟨wX, hwX⟩ : ∃ x, waX.alloc (.cells #[.slice (some ⟨bX, oX, none⟩) 4 cX, .slice AX 0 dX] 30) = x := ⟨_, rfl⟩
  change BoxAt (waX.alloc (.cells #[.slice (some ⟨bX, oX, none⟩) 4 cX, .slice AX 0 dX] 30)) _ _ _ at hX
  rw [hwX] at hX HRdX HBel HBxA HRdA HV1
  have HBxX := Lib.hid hX
  clear hal hX hbb hr hb hrl
  obtain ⟨pA0, pA1, pA2, pA3⟩ := HBxA.out.two
  obtain ⟨pX0, pX1, pX2, pX3⟩ := HBxX.out.two
  generalize (goneA a (x : Nat)).1 = y at *
  generalize (goneA a (x : Nat)).2 = ye at *
  go_wp2_with fail
  clear hwX
  refine (array_Read y (n : Nat) _ _ _ HRdX.out HSX.out.1).mono ?_
  rintro e wb2 ⟨vb2, rfl, hrb, hb⟩
  rw [HGX.out] at hrb ⊢
  obtain ⟨Ab2, cb2, rfl, _, _⟩ := hrb.shape
  replace HBxA := Lib.hid (HBxA.out.grow hb)
  replace HBxX := Lib.hid (HBxX.out.grow hb)
  replace HRdA := Lib.hid (HRdA.out.grow hb)
  replace HRdX := Lib.hid (HRdX.out.grow hb)
  replace HBel := Lib.hid (HBel.out.trans (hb.mono HBel.out.size))
  replace HV1 := Lib.hid (okB.grow HV1.out hb)
  clear pA0 pA1 pA2 pA3 pX0 pX1 pX2 pX3
  have HV2 := Lib.hid (okB.mono hrb (F' := fun _ => True) fun _ _ => trivial)
  rw [HL4.out] at HV2 ⊢
  clear hrb hb
  obtain ⟨pA0, pA1, pA2, pA3⟩ := HBxA.out.two
  obtain ⟨pX0, pX1, pX2, pX3⟩ := HBxX.out.two
  have hc1 := run_conv HV1.out Try.underlying23 Try.underlying5 Try.underlying9
  have hc2 := run_conv HV2.out Try.underlying23 Try.underlying5 Try.underlying9
  go_wp2
  go_ret
  exact ⟨rfl, HBel.out⟩
namespace arrayReadDone
open Go.ChangeShapes Go.WideShapes Go.ChangeAt Go.RowKit M
open Go.ChangeMaps (open_string shut_string)
set_option linter.unusedVariables false
set_option maxRecDepth 100000 in
theorem lifted (os : Os) (started : os.Started) (H : Type) (enc : TypeId × Value → H) :
    ReturnsInHanded {} Try.checked os 6 .any (Rows.arrayReadSpec.pre6 enc Try.prog Try.f6 Rows.arrayReadRow.domain false) (Rows.arrayReadSpec.post enc Try.prog Try.f6 false true false false) := by
  refine returnsInHanded_of_change (C := Try.checked) own started (by kernel_rfl) Try.func6
    (ChangeSpec.witness6 (enc := enc) (C := Try.checked) false ⟨#[], #[.slice none 0 0, .int .i64 0], []⟩ 8 (by kernel_rfl) (by kernel_rfl) (by kernel_rfl) (by kernel_rfl)) ?_
  intro W base args ds gs before hval0 hW hcnd _
  have hval : ∀ (j : Nat) t v, Try.f6.params[j]? = some t → args[j]? = some v → Value.okWide Try.prog W .any base t v := hval0
  have hW' := hW
  obtain ⟨p, q, hA0, hV, rfl, hfz, hnd⟩ := hW
  have hA : DataW.TrodAll enc Try.prog W 0 (fun _ => true) true Try.f6.params.toList args.toList ds p := hA0
  rw [Try.params6] at hA hval
  obtain ⟨v0, vs0, d0, ds0, p0, q0, hargs, rfl, rfl, h0, r0⟩ := trodAll_cons hA
  obtain ⟨v1, vs1, d1, ds1, p1, q1, rfl, rfl, rfl, h1, r1⟩ := trodAll_cons r0
  obtain ⟨rfl, rfl, rfl⟩ := trodAll_nil r1
  obtain rfl : args = #[v0, v1] := by cases args; simp_all
  obtain ⟨rfl, rfl⟩ := trodVars_none hV
  obtain ⟨a0, len0, cap0, rfl⟩ := okWide_slice Try.underlying22 (hval 0 22 v0 rfl rfl)
  have k0 := h0
  have lt0 : ∀ x ∈ p0, x.block < W.heap.size := by obtain ⟨m, hm⟩ := k0; exact DataW.trod_lt m _ _ _ hm
  obtain ⟨fuel0, hf0⟩ := h0
  obtain ⟨b0, w0, l0⟩ := open_steps hf0
  obtain ⟨a1, rfl, rfl, rfl, w1⟩ := open_int Try.underlying3 (hval 1 3 v1 rfl rfl) h1
  have b1 := bounds_i64 w1
  clear hA0 hval0
  refine (arrayRead_walk b0 _ a1 W w0 b1.1 b1.2).mono fun e W' ⟨he, bel⟩ => ?_
  subst he
  exact ⟨_, rfl, _, _, _, [], _, [], hW', trodAll_mk1 (shut_bool Try.underlying4 _), (trodAll_cons_mk (Below.trod laidOut (by kernel_rfl) (of_decide_eq_true (by kernel_rfl)) k0 bel lt0) (trodAll_cons_mk (shut_int Try.underlying3 w1) trodAll_mk0)), rfl, bel.frame _, fun h => by cases h⟩
theorem over : Rows.arrayReadRow.holds Try.pinned (OpenSpec.ofChange Rows.arrayReadSpec) :=
  OpenClaim.holds_of_wide 6 Try.f6 rfl rfl rfl rfl rfl rfl rfl ⟨rfl, rfl, rfl, rfl, rfl⟩ rfl rfl rfl rfl rfl (by kernel_rfl) Try.func6 (by kernel_rfl)
    (of_decide_eq_true (by kernel_rfl)) (by unfold Func.isWrapper; first | (rw [if_pos (by decide +kernel)]; kernel_rfl) | (rw [if_neg (by decide +kernel)]; exact ⟨rfl, rfl⟩))
    (fun os started H enc _ => lifted os started H enc)
/-- The statement. -/
theorem proved : Rows.ArrayReadSaid := over
end arrayReadDone
end Go.Proofs.Ytoendmbgfbhidaa

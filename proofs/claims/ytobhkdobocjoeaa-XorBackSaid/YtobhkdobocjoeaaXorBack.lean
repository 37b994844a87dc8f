/- Chapter 3: XorBack holds for every input: the call returns true, and each argument reads behind it as it read before. -/
import Derived.Test.YtobhkdobocjoeaaL3
import Derived.Test.YtobhkdobocjoeaaOpen
namespace Go.Proofs.Ytobhkdobocjoeaa
open Go Go.RowKit M

set_option maxHeartbeats 1600000 in
theorem xorBack_walk (l : List Bs) (v : Value) (k : Int) (w : World) (h : RdBB w (fun _ => True) v l) (_hk0 : -9223372036854775808 ≤ k) (_hk1 : k ≤ 9223372036854775807) :
    Calls Try.prog 7 #[v, .int .i64 k] w fun e w' => e = .returned (.bool true) ∧ Below w.heap.size w w' := by
  obtain ⟨Al, cl, rfl, _, _⟩ := h.shape
  go_enter Try.func7, Try.ntmps7
  go_wp2_with fail
  refine (law3_alive w).mono ?_
  rintro e w1 ⟨rfl, hl0⟩
  replace h := okBB.grow h hl0
  by_cases hr : rightB l = true
  rotate_left
  · have hr' : rightB l = false := by simpa using hr
    go_wp2_with fail
    refine (law3_right l _ _ _ h).mono ?_
    rintro e w1 ⟨rfl, rfl⟩
    rw [hr']
    clear hr hr' h
    go_wp2
    go_ret
    exact ⟨rfl, hl0⟩
  by_cases hin : 0 ≤ k ∧ k < l.length
  rotate_left
  · have HR := Lib.hid hr
    clear hr
    go_wp2_with fail
    refine (law3_right l _ _ _ h).mono ?_
    rintro e w1 ⟨rfl, rfl⟩
    rw [HR.out]
    clear HR h
    go_wp2
    all_goals
      go_ret
      exact ⟨rfl, hl0⟩
  obtain ⟨hin0, hin1⟩ := hin
  obtain ⟨n, rfl⟩ := Int.eq_ofNat_of_zero_le hin0
  have hln : n < l.length := by omega
  obtain ⟨hl4, hl50⟩ := rightB_blocks hr
  have HR := Lib.hid hr
  clear hr
  have hown := Bld.empty RdB 22 w1 w1.heap.size (fun _ => True) (Nat.le_refl _)
  have hle := below_alloc w1 (.cells #[] 22)
  have hsrc := okBB.old h hle (G := fun k => some k ≠ Value.ownBlock (.slice (some ⟨w1.heap.size, 0, none⟩) 0 0) ∧ True) (by simp [Value.ownBlock]; omega)
  go_wp2_with fail
  refine (law3_right l _ _ _ h).mono ?_
  rintro e w2 ⟨rfl, rfl⟩
  rw [HR.out]
  go_wp2_with (at_builtin; refine wpList_append_bld _ rfl _ _ 28 rfl okB slBB w1.heap.size (fun _ => True) (.slice (some ⟨w1.heap.size, 0, none⟩) 0 0) _ [] l rfl rfl hown hsrc ?c1 ?c2 ?c3)
  case c1 => simp; omega
  case c2 => simp
  case c3 =>
  intro v3 w3 hv3 hl3 hg3 _
  replace hl3 := hle.trans hl3
  clear hown hsrc hg3 hle
  have h1 := h
  replace h := okBB.grow h hl3
  replace hv3 := hv3.lt okB
  go_wp2_with fail
  refine (xor_All l _ _ _ h hl4).mono ?_
  rintro e w4 ⟨v4, rfl, hv4, hb4⟩
  have hs3 := hl3.size
  have hs4 := hb4.size
  have hl4' := hl3.trans (hb4.mono hl3.size)
  have hv3b := (hv3.grow okB hb4).mono okB (G' := fun _ => True) fun _ _ _ => trivial
  have h4s : ∃ g c, v4 = .slice (some ⟨g, 0, none⟩) (xorAll l).length c := by
    obtain ⟨g, c, hv, _⟩ := hv4.form (by rw [xorAll_length]; decide)
    exact ⟨g, c, hv⟩
  have hr4 : RdB w4 (fun k => some k ≠ v3.ownBlock ∧ True) v4 (xorAll l) := hv4.bytes (G' := fun _ => False) |>.toRd ok8 (fun k hk => ⟨fun e => by have := (hv3.blk k e.symm).2; omega, trivial⟩) (fun k hk => hk.elim)
  obtain ⟨g4, c4, hg4⟩ := h4s
  subst hg4
  have hsrc4 := RdL.one_ okB hr4 22 (w := w4) ⟨fun e => by have := (hv3b.blk _ e.symm).2; omega, trivial⟩
  have hv3c := hv3b.alloc okB (.cells #[.slice (some ⟨g4, 0, none⟩) (xorAll l).length c4] 22)
  clear hv3 hv3b hv4 hr4
  go_wp2_with (at_builtin; refine wpList_append_bld _ rfl _ _ 28 rfl okB slBB w1.heap.size (fun _ => True) _ _ l [xorAll l] rfl rfl hv3c hsrc4 ?c1 ?c2 ?c3)
  case c1 => simp; omega
  case c2 => simp; omega
  case c3 =>
  intro v5 w5 hv5 hl5 hg5 _
  replace hl5 := hl4'.trans (((below_alloc w4 (.cells #[.slice (some ⟨g4, 0, none⟩) (xorAll l).length c4] 22)).mono hl4'.size).trans hl5)
  clear hv3c hsrc4 hg5
  have hall : Blocks4 (l ++ [xorAll l]) := fun b hb => by
    simp at hb
    rcases hb with hb | rfl
    · exact hl4 b hb
    · exact xorAll_length l
  have hlen : (l ++ [xorAll l]).length = l.length + 1 := by simp
  have hback := xorBack hl4 hln
  have hself := xorAll_self l
  clear h
  replace h := okBB.grow h1 hl5
  have hl6 := hl0.trans (hl5.mono hl0.size)
  have hr5 := hv5.toRd_ okB
  obtain ⟨g5, c5, hv5f, _⟩ := hv5.form (by omega)
  rw [hlen] at hv5f
  subst hv5f
  generalize hall' : l ++ [xorAll l] = all at *
  have HA := Lib.hid hall'
  have HL := Lib.hid hlen
  have HB := Lib.hid hback
  have HS := Lib.hid hself
  clear hall' hlen hback hself hv5 hl0 hl3 hs3 hs4 hl4' hb4 h1 hl5
  go_wp2_with fail
  go_loopw [6, 33] (fun u i wr => ∃ j : Nat, j ≤ l.length + 1 ∧ i = .int .i64 j ∧ RdBB wr (fun k => k < wr.heap.size) u (othersTo all n j) ∧ Below w5.heap.size w5 wr) (fun _ i _ => l.length + 1 - (intOf i).toNat)
  case atStart => exact ⟨0, Nat.zero_le _, rfl, by rw [othersTo_zero]; exact RdL.nil_ _ _ _ _ _ (by simp [maxLen]), Below.refl _ _⟩
  case round =>
    obtain ⟨j, hj, rfl, hu, hlr⟩ := hrel
    by_cases hlt : j < l.length + 1
    · have hja : j < all.length := by rw [HL.out]; exact hlt
      obtain ⟨bb, off, x, hx0, _, hx, hR⟩ := (okBB.grow hr5 hlr).at_ hja
      injection hx0 with hx0
      injection hx0 with hx1 hx2
      subst hx1
      subst hx2
      obtain ⟨X, cx, rfl, _, _⟩ := hR.shape
      simp only [Nat.zero_add] at hx
      by_cases hjn : j = n
      · subst hjn
        have hos := othersTo_same all j
        have HO := Lib.hid hos
        clear hos hR h hr5
        go_wp2
        go_roundw
        case rel => exact ⟨j + 1, by omega, by go_num, by rw [HO.out]; exact hu, hlr⟩
        case measure => simp [intOf]; omega
      · have hne : ((j : Int) != (n : Int)) = true := by simp; omega
        have hne2 : (j != n) = true := by simp; omega
        have hon := othersTo_next hja hjn
        have holen := othersTo_len all n j (by omega)
        obtain ⟨U, cu, rfl, _, _⟩ := hu.shape
        have hown := Bld.one_ okB (okB.mono hR (F' := fun k => k < wr.heap.size) fun k hk => Nat.lt_of_lt_of_le hk hlr.size) 22 (Nat.le_refl wr.heap.size)
        have hsrc := okBB.old hu (below_alloc wr (.cells #[.slice X (all[j]).length cx] 22)) (G := fun k => some k ≠ Value.ownBlock (.slice (some ⟨wr.heap.size, 0, none⟩) 1 1) ∧ k < wr.heap.size) (by simp [Value.ownBlock]; omega)
        have hlr2 := hlr.trans ((below_alloc wr (.cells #[.slice X (all[j]).length cx] 22)).mono hlr.size)
        have HO := Lib.hid hon
        have HZ := Lib.hid hlr.size
        clear hon hR h hr5 hu hne2 hlr
        go_wp2_with (at_builtin; refine wpList_append_bld _ rfl _ _ 28 rfl okB slBB wr.heap.size (fun k => k < wr.heap.size) _ _ [all[j]] (othersTo all n j) rfl rfl hown hsrc ?d1 ?d2 ?d3)
        case d1 => omega
        case d3 =>
        intro v' w' hv' hb' _ _
        have hr' := hv'.toRd_ okB
        have hlr3 := hlr2.trans (hb'.mono HZ.out)
        clear hown hsrc hv' hb'
        go_wp2
        go_roundw
        case rel => exact ⟨j + 1, by omega, by go_num, by rw [HO.out]; exact hr', hlr3⟩
        case measure => simp [intOf]; omega
    · obtain rfl : j = l.length + 1 := by omega
      obtain ⟨bb, off, x, rfl, _, hx, hRx⟩ := h.at_ hln
      have hx' : ∀ w', Below w5.heap.size w5 w' → w'.cell? ⟨bb, off + n, none⟩ = some x := fun w' hw' => by
        rw [hw'.cell (p := ⟨bb, off + n, none⟩) (World.block_lt_of_cell? _ _ hx)]; exact hx
      have hoB := othersTo_blocks n (l.length + 1) hall
      have hlr' := hl6.trans (hlr.mono hl6.size)
      have hr5' := okBB.grow hr5 hlr
      have hRx' := okB.grow hRx hlr
      have q1 : (0 : Int) ≤ (n : Int) := by omega
      have q2 : (n : Int) < (l.length : Int) := by omega
      go_wp2_with fail
      refine region_list [Cv (.slice (some ⟨g5, 0, none⟩) (l.length + 1) c5), Cv (.bool true), Cv (.bool true), Cv (u6), Rv RdB l[n], Cv (.string (strB l[n])), Cv (.slice (some ⟨bb, off, none⟩) l.length cl), Cv (.int .i64 n), Cv (.pointer (some ⟨bb, off + n, none⟩)), Cv (x), Cv (.string (strB l[n])), Cv (.bool true), Cv (.bool true), Cv (.bool true)] (by kernel_rfl) (by kernel_rfl) (by kernel_rfl) ?_ ?_ ?_
      · repeat (first | exact trivial | refine ⟨mC _, ?_⟩ | refine ⟨mR okB _, ?_⟩ | refine ⟨mT, ?_⟩ | refine ⟨mR okBB _, ?_⟩ | refine ⟨mR okBBB _, ?_⟩)
      · simp only [StepsL]
        refine ⟨?_, ?_, ?_, ?_, ?_, ?_, ?_, ?_, ?_, ?_, ?_, ?_, ?_, ?_, trivial⟩
        · intro y wx hw hd K hK
          simp only [putL, Act.put, List.setIfInBounds_toArray, List.set_cons_zero, List.set_cons_succ, Nat.zero_add, Nat.reduceAdd] at hK ⊢
          rw [if_pos (by rfl)]
          go_simp
          exact hK _ _ (Below.refl _ _) rfl
        · intro y wx hw hd K hK
          have e0 : y 0 = _ := hd 0 (by decide)
          simp only [putL, Act.put, List.setIfInBounds_toArray, List.set_cons_zero, List.set_cons_succ, Nat.zero_add, Nat.reduceAdd, e0] at hK ⊢
          rw [if_pos (by rfl)]
          go_simp
          refine (xor_Even all _ _ _ (okBB.grow hr5' hw) hall).mono ?_
          rintro e w' ⟨rfl, hb'⟩
          exact hK _ _ hb' (by rw [HS.out]; rfl)
        · intro y wx hw hd K hK
          have e1 : y 1 = _ := hd 1 (by decide)
          simp only [putL, Act.put, List.setIfInBounds_toArray, List.set_cons_zero, List.set_cons_succ, Nat.zero_add, Nat.reduceAdd, e1] at hK ⊢
          rw [if_pos (by rfl)]
          go_simp
          exact hK _ _ (Below.refl _ _) rfl
        · intro y wx hw hd K hK
          have e2 : y 2 = _ := hd 2 (by decide)
          simp only [putL, Act.put, List.setIfInBounds_toArray, List.set_cons_zero, List.set_cons_succ, Nat.zero_add, Nat.reduceAdd, e2] at hK ⊢
          rw [if_pos (by rfl)]
          go_simp
          exact hK _ _ (Below.refl _ _) rfl
        · intro y wx hw hd K hK
          have e2 : y 2 = _ := hd 2 (by decide)
          have e3 : y 3 = _ := hd 3 (by decide)
          simp only [putL, Act.put, List.setIfInBounds_toArray, List.set_cons_zero, List.set_cons_succ, Nat.zero_add, Nat.reduceAdd, e2, e3] at hK ⊢
          rw [if_pos (by rfl)]
          go_simp
          refine (xor_All (othersTo all n (l.length + 1)) _ _ _ (okBB.grow hu hw) hoB).mono ?_
          rintro e w' ⟨v', rfl, hv', hb'⟩
          rw [HB.out] at hv'
          exact hK _ _ hb' (hv'.toRd_ ok8)
        · intro y wx hw hd K hK
          have e2 : y 2 = _ := hd 2 (by decide)
          have k4 := hd 4 (by decide)
          change (Rv RdB l[n]) wx (y 4) at k4
          simp only [putL, Act.put, List.setIfInBounds_toArray, List.set_cons_zero, List.set_cons_succ, Nat.zero_add, Nat.reduceAdd, e2] at hK ⊢
          rw [if_pos (by rfl)]
          have hc := run_conv k4 Try.underlying22 Try.underlying5 Try.underlying9
          go_simp
          exact hK _ _ (Below.refl _ _) rfl
        · intro y wx hw hd K hK
          have e2 : y 2 = _ := hd 2 (by decide)
          simp only [putL, Act.put, List.setIfInBounds_toArray, List.set_cons_zero, List.set_cons_succ, Nat.zero_add, Nat.reduceAdd, e2] at hK ⊢
          rw [if_pos (by rfl)]
          go_simp
          exact hK _ _ (Below.refl _ _) rfl
        · intro y wx hw hd K hK
          have e2 : y 2 = _ := hd 2 (by decide)
          simp only [putL, Act.put, List.setIfInBounds_toArray, List.set_cons_zero, List.set_cons_succ, Nat.zero_add, Nat.reduceAdd, e2] at hK ⊢
          rw [if_pos (by rfl)]
          go_simp
          exact hK _ _ (Below.refl _ _) rfl
        · intro y wx hw hd K hK
          have e2 : y 2 = _ := hd 2 (by decide)
          have e6 : y 6 = _ := hd 6 (by decide)
          have e7 : y 7 = _ := hd 7 (by decide)
          simp only [putL, Act.put, List.setIfInBounds_toArray, List.set_cons_zero, List.set_cons_succ, Nat.zero_add, Nat.reduceAdd, e2, e6, e7] at hK ⊢
          rw [if_pos (by rfl)]
          go_simp
          exact hK _ _ (Below.refl _ _) rfl
        · intro y wx hw hd K hK
          have e2 : y 2 = _ := hd 2 (by decide)
          have e8 : y 8 = _ := hd 8 (by decide)
          simp only [putL, Act.put, List.setIfInBounds_toArray, List.set_cons_zero, List.set_cons_succ, Nat.zero_add, Nat.reduceAdd, e2, e8] at hK ⊢
          rw [if_pos (by rfl)]
          have hc := hx' wx (hlr.trans (hw.mono hlr.size))
          go_simp
          exact hK _ _ (Below.refl _ _) rfl
        · intro y wx hw hd K hK
          have e2 : y 2 = _ := hd 2 (by decide)
          have e9 : y 9 = _ := hd 9 (by decide)
          simp only [putL, Act.put, List.setIfInBounds_toArray, List.set_cons_zero, List.set_cons_succ, Nat.zero_add, Nat.reduceAdd, e2, e9] at hK ⊢
          rw [if_pos (by rfl)]
          have hc := run_conv (okB.grow hRx' hw) Try.underlying22 Try.underlying5 Try.underlying9
          go_simp
          exact hK _ _ (Below.refl _ _) rfl
        · intro y wx hw hd K hK
          have e2 : y 2 = _ := hd 2 (by decide)
          have e5 : y 5 = _ := hd 5 (by decide)
          have e10 : y 10 = _ := hd 10 (by decide)
          simp only [putL, Act.put, List.setIfInBounds_toArray, List.set_cons_zero, List.set_cons_succ, Nat.zero_add, Nat.reduceAdd, e2, e5, e10] at hK ⊢
          rw [if_pos (by rfl)]
          go_simp
          exact hK _ _ (Below.refl _ _) rfl
        · intro y wx hw hd K hK
          have e2 : y 2 = _ := hd 2 (by decide)
          have e11 : y 11 = _ := hd 11 (by decide)
          simp only [putL, Act.put, List.setIfInBounds_toArray, List.set_cons_zero, List.set_cons_succ, Nat.zero_add, Nat.reduceAdd, e2, e11] at hK ⊢
          rw [if_pos (by rfl)]
          go_simp
          exact hK _ _ (Below.refl _ _) rfl
        · intro y wx hw hd K hK
          have e12 : y 12 = _ := hd 12 (by decide)
          simp only [putL, Act.put, List.setIfInBounds_toArray, List.set_cons_zero, List.set_cons_succ, Nat.zero_add, Nat.reduceAdd, e12] at hK ⊢
          rw [if_pos (by rfl)]
          go_simp
          exact hK _ _ (Below.refl _ _) rfl
      · intro y w' hl' hV
        have e13 : y 13 = _ := hV 13 (by decide)
        clear hV
        simp only [putL, Act.put, List.setIfInBounds_toArray, List.set_cons_zero, List.set_cons_succ, Nat.zero_add, Nat.reduceAdd, e13]
        clear e13
        go_wp2
        go_ret
        exact ⟨rfl, hlr'.trans (hl'.mono hlr'.size)⟩
namespace xorBackDone
open Go.ChangeShapes Go.WideShapes Go.ChangeAt Go.RowKit M
open Go.ChangeMaps (open_string shut_string)
set_option linter.unusedVariables false
set_option maxRecDepth 100000 in
theorem lifted (os : Os) (started : os.Started) (H : Type) (enc : TypeId × Value → H) :
    ReturnsInHanded {} Try.checked os 7 .any (Rows.xorBackSpec.pre6 enc Try.prog Try.f7 Rows.xorBackRow.domain false) (Rows.xorBackSpec.post enc Try.prog Try.f7 false true false false) := by
  refine returnsInHanded_of_change (C := Try.checked) own started (by kernel_rfl) Try.func7
    (ChangeSpec.witness6 (enc := enc) (C := Try.checked) false ⟨#[], #[.slice none 0 0, .int .i64 0], []⟩ 8 (by kernel_rfl) (by kernel_rfl) (by kernel_rfl) (by kernel_rfl)) ?_
  intro W base args ds gs before hval0 hW hcnd _
  have hval : ∀ (j : Nat) t v, Try.f7.params[j]? = some t → args[j]? = some v → Value.okWide Try.prog W .any base t v := hval0
  have hW' := hW
  obtain ⟨p, q, hA0, hV, rfl, hfz, hnd⟩ := hW
  have hA : DataW.TrodAll enc Try.prog W 0 (fun _ => true) true Try.f7.params.toList args.toList ds p := hA0
  rw [Try.params7] at hA hval
  obtain ⟨v0, vs0, d0, ds0, p0, q0, hargs, rfl, rfl, h0, r0⟩ := trodAll_cons hA
  obtain ⟨v1, vs1, d1, ds1, p1, q1, rfl, rfl, rfl, h1, r1⟩ := trodAll_cons r0
  obtain ⟨rfl, rfl, rfl⟩ := trodAll_nil r1
  obtain rfl : args = #[v0, v1] := by cases args; simp_all
  obtain ⟨rfl, rfl⟩ := trodVars_none hV
  obtain ⟨a0, len0, cap0, rfl⟩ := okWide_slice Try.underlying28 (hval 0 28 v0 rfl rfl)
  have k0 := h0
  have lt0 : ∀ x ∈ p0, x.block < W.heap.size := by obtain ⟨m, hm⟩ := k0; exact DataW.trod_lt m _ _ _ hm
  obtain ⟨fuel0, hf0⟩ := h0
  obtain ⟨b0, w0, l0⟩ := M.open_BB Try.underlying28 (by kernel_rfl) Try.underlying22 Try.underlying5 (by kernel_rfl) hf0
  obtain ⟨a1, rfl, rfl, rfl, w1⟩ := open_int Try.underlying3 (hval 1 3 v1 rfl rfl) h1
  have b1 := bounds_i64 w1
  clear hA0 hval0
  refine (xorBack_walk b0 _ a1 W w0 b1.1 b1.2).mono fun e W' ⟨he, bel⟩ => ?_
  subst he
  exact ⟨_, rfl, _, _, _, [], _, [], hW', trodAll_mk1 (shut_bool Try.underlying4 _), (trodAll_cons_mk (Below.trod laidOut (by kernel_rfl) (of_decide_eq_true (by kernel_rfl)) k0 bel lt0) (trodAll_cons_mk (shut_int Try.underlying3 w1) trodAll_mk0)), rfl, bel.frame _, fun h => by cases h⟩
theorem over : Rows.xorBackRow.holds Try.pinned (OpenSpec.ofChange Rows.xorBackSpec) :=
  OpenClaim.holds_of_wide 7 Try.f7 rfl rfl rfl rfl rfl rfl rfl ⟨rfl, rfl, rfl, rfl, rfl⟩ rfl rfl rfl rfl rfl (by kernel_rfl) Try.func7 (by kernel_rfl)
    (of_decide_eq_true (by kernel_rfl)) (by unfold Func.isWrapper; first | (rw [if_pos (by decide +kernel)]; kernel_rfl) | (rw [if_neg (by decide +kernel)]; exact ⟨rfl, rfl⟩))
    (fun os started H enc _ => lifted os started H enc)
/-- The statement. -/
theorem proved : Rows.XorBackSaid := over
end xorBackDone
end Go.Proofs.Ytobhkdobocjoeaa

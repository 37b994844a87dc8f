/- Chapter 7: what the reference's Data computes. -/
import Derived.Test.YtlbnkoahkfhimaaC7b
namespace Go.Proofs.Ytlbnkoahkfhimaa
set_option linter.unusedVariables false
open Go Go.RowKit M
set_option maxRecDepth 100000 in
set_option maxHeartbeats 1600000 in
theorem ref_Data (l : List Bs) (s : Nat) (v : Value) (F : Fp) (w : World) (h : RdBB w F v l) (hn : l.length ≤ 200) :
    Calls Try.prog 30 #[v, .int .i64 s] w fun e w' => ∃ v', e = .returned (.tuple #[v', .int .i64 (dataL l s).2]) ∧ Bld RdB 23 w' w.heap.size (fun k => F k ∨ w.heap.size ≤ k) v' (dataL l s).1 ∧ Below w.heap.size w w' := by
  replace h := okBB.lt h
  obtain ⟨A, c, rfl, _, hm⟩ := h.shape
  unfold maxLen at hm
  by_cases hb : 1 < (badL l s).length
  · rw [data_lost hb]
    go_enter Try.func30, Try.ntmps30
    go_wp2_with fail
    refine (ref_Bad l s _ _ _ h hn).mono ?_
    rintro e w1 ⟨v1, rfl, hv1, hb1⟩
    obtain ⟨A1, c1, rfl, _, _⟩ := (hv1.toRd_ okI).shape
    rw [ints_len]
    generalize (badL l s).length = n at *
    clear hv1
    go_wp2
    go_ret2
    exact ⟨_, rfl, Bld.nil_ _ _ _ _ _, hb1⟩
  · rw [data_had hb]
    have HB := Lib.hid (show ∀ d, d < l.length → okC l s d = false → badL l s = [d] from fun d h1 h2 => bad_single hb h1 h2)
    go_enter Try.func30, Try.ntmps30
    go_wp2_with fail
    refine (ref_Bad l s _ _ _ h hn).mono ?_
    rintro e w1 ⟨v1, rfl, hv1, hb1⟩
    obtain ⟨A1, c1, rfl, _, _⟩ := (hv1.toRd_ okI).shape
    rw [ints_len]
    generalize (badL l s).length = n at *
    replace h := okBB.grow h hb1
    have HS1 := Lib.hid hb1.size
    have HB1 := Lib.hid hb1
    clear hv1 hb1
    go_wp2_with fail
    go_loopw [7, 23] (fun u i wr => ∃ k : Nat, k ≤ l.length ∧ i = .int .i64 k ∧ Bld RdB 23 wr w1.heap.size (fun k => F k ∨ w1.heap.size ≤ k) u (datTo l s k) ∧ Below w1.heap.size w1 wr) (fun _ i _ => l.length - (intOf i).toNat)
    case atStart => exact ⟨0, Nat.zero_le _, rfl, Bld.nil_ _ _ _ _ _, Below.refl _ _⟩
    case round =>
      obtain ⟨k, hk, rfl, hO, hlw⟩ := hrel
      have HLW := Lib.hid hlw
      by_cases hlt : k < l.length
      · have hbk : decide ((k : Int) < l.length) = true := by simp; omega
        obtain ⟨b, off, u, rfl, _, hu, hR⟩ := (okBB.grow h hlw).at_ hlt
        obtain ⟨A2, c2, rfl, _, _⟩ := hR.shape
        have HT := Lib.hid (show ((datTo l s k).length + 1) * 24 ≤ 140737488355328 by rw [datTo_len]; omega)
        have HG := Lib.hid (show l.getD k [] = l[k] by simp [List.getD, List.getElem?_eq_getElem hlt])
        have HN := Lib.hid (datTo_next l s k)
        have HO := Lib.hid hO
        have HH := Lib.hid (okBB.grow h hlw)
        clear hO hlw
        go_wp2_with fail
        refine (ref_CellRead l[k] k s _ _ _ hR).mono ?_
        rintro e w2 ⟨v2, rfl, hr2, hb2⟩
        have HB2 := Lib.hid hb2
        have HSW := Lib.hid (Nat.le_trans HLW.out.size HB2.out.size)
        have HH2 := Lib.hid (okBB.grow HH.out hb2)
        clear hb2 hR
        cases hok : okC l s k with
        | true =>
          have h0 := okC_true.1 hok
          rw [HG.out] at h0
          rw [h0]
          have HX := Lib.hid (show datTo l s k ++ [(readC l[k] k s).1] = datTo l s (k + 1) by rw [HN.out, if_pos hok, HG.out])
          obtain ⟨A3, c3, rfl, _, _⟩ := hr2.shape
          have HZ := Lib.hid (okB.mono hr2 (F' := fun k => some k ≠ u7.ownBlock ∧ (F k ∨ w1.heap.size ≤ k)) fun k hk => ⟨fun e => by have := (HO.out.blk k e.symm).1; have := hk.2; have := HS1.out; omega, .inl hk.1⟩)
          clear hok h0 hr2
          go_wp2_with (at_builtin; refine wpList_append_oneG rfl _ _ 22 rfl okB slBB w1.heap.size (fun k => F k ∨ w1.heap.size ≤ k) _ _ (readC l[k] k s).1 _ rfl (by rfl) (by rfl) (HO.out.grow okB HB2.out) HZ.out (fun _ hk => .inr hk) HT.out HSW.out ?c1)
          case c1 =>
          intro v' w' hB hb
          rw [HX.out] at hB
          go_wp2
          go_roundw
          case rel => exact ⟨k + 1, by omega, by go_num, hB, HLW.out.trans ((HB2.out.mono HLW.out.size).trans hb)⟩
          case measure => simp [intOf]; omega
        | false =>
          have h0 := okC_false.1 hok
          rw [HG.out] at h0
          have h0' : ((readC l[k] k s).2 != 0) = true := by simpa using h0
          have hsingle := HB.out k hlt hok
          have HOth := Lib.hid (othTo_good hsingle)
          have HX := Lib.hid (show datTo l s k ++ [xorAll (goodTo l s l.length)] = datTo l s (k + 1) by rw [HN.out, if_neg (by rw [hok]; decide)])
          have HOs := Lib.hid (othTo_same l s k)
          clear hok h0 hsingle hr2 hu
          generalize (readC l[k] k s).2 = r at *
          go_wp2_with fail
          go_loopw [11, 40] (fun o i wi => ∃ j : Nat, j ≤ l.length ∧ i = .int .i64 j ∧ Bld RdB 23 wi w2.heap.size (fun _ => True) o (othTo l s k j) ∧ Below w2.heap.size w2 wi) (fun _ i _ => l.length - (intOf i).toNat)
          case atStart => exact ⟨0, Nat.zero_le _, rfl, Bld.nil_ _ _ _ _ _, Below.refl _ _⟩
          case round =>
            obtain ⟨j, hj, rfl, hQ, hli⟩ := hrel
            have HLI := Lib.hid hli
            by_cases hjt : j < l.length
            · have HT2 := Lib.hid (show ((othTo l s k j).length + 1) * 24 ≤ 140737488355328 by have := othTo_len l s k j; omega)
              have HQ := Lib.hid hQ
              by_cases hjk : j = k
              · subst hjk
                have hne : ((j : Int) != (j : Int)) = false := by simp
                clear hQ hli
                go_wp2
                go_roundw
                case rel => exact ⟨j + 1, by omega, by go_num, by rw [HOs.out]; exact HQ.out, HLI.out⟩
                case measure => simp [intOf]; omega
              · have hne : ((j : Int) != (k : Int)) = true := by simp; omega
                obtain ⟨b', off', u', hA, _, hu, hR⟩ := (okBB.grow HH2.out hli).at_ hjt
                injection hA with hA
                injection hA with hA1 hA2
                subst hA1
                subst hA2
                obtain ⟨A4, c4, rfl, _, _⟩ := hR.shape
                have HGj := Lib.hid (show l.getD j [] = l[j] by simp [List.getD, List.getElem?_eq_getElem hjt])
                have HXo := Lib.hid (show othTo l s k j ++ [(readC l[j] j s).1] = othTo l s k (j + 1) by rw [othTo_next hjk, HGj.out])
                clear hQ hli hjk
                go_wp2_with fail
                refine (ref_CellRead l[j] j s _ _ _ hR).mono ?_
                rintro e w3 ⟨v3, rfl, hr3, hb3⟩
                obtain ⟨A5, c5, rfl, _, _⟩ := hr3.shape
                have HB3 := Lib.hid hb3
                have HZ := Lib.hid (okB.mono hr3 (F' := fun k => some k ≠ u11.ownBlock) fun k hk e => by have := (HQ.out.blk k e.symm).1; have := hk.2; have := HS1.out; have := HSW.out; omega)
                have HSI := Lib.hid (Nat.le_trans HLI.out.size HB3.out.size)
                clear hb3 hr3 hR
                go_wp2_with (at_builtin; refine wpList_append_one rfl _ _ 22 rfl okB slBB w2.heap.size _ _ (readC l[j] j s).1 _ rfl (by rfl) (by rfl) (HQ.out.grow okB HB3.out) HZ.out HT2.out HSI.out ?c1)
                case c1 =>
                intro v' w' hB hb
                rw [HXo.out] at hB
                go_wp2
                go_roundw
                case rel => exact ⟨j + 1, by omega, by go_num, hB, HLI.out.trans ((HB3.out.mono HLI.out.size).trans hb)⟩
                case measure => simp [intOf]; omega
            · obtain rfl : j = l.length := by omega
              rw [HOth.out] at hQ
              have hrq := hQ.toRd_ okB
              clear hQ hli
              go_wp2_with fail
              refine (ref_Xor _ _ _ _ hrq (goodTo_blocks l s l.length)).mono ?_
              rintro e w4 ⟨v4, rfl, hv4, hb4⟩
              have hbe := HLI.out.trans (hb4.mono HLI.out.size)
              have hO4 := HO.out.grow okB (HB2.out.trans (hbe.mono HB2.out.size))
              have hr4 := (hv4.bytes (G' := fun k => w2.heap.size ≤ k)).toRd ok8 (F := fun k => w2.heap.size ≤ k) (fun _ hk => Nat.le_trans HLI.out.size hk) (fun _ hk => hk)
              obtain ⟨A5, c5, rfl, _, _⟩ := hr4.shape
              have HZ := Lib.hid (okB.mono hr4 (F' := fun k => some k ≠ u7.ownBlock ∧ (F k ∨ w1.heap.size ≤ k)) fun k hk => ⟨fun e => by have := (HO.out.blk k e.symm).2; have := HB2.out.size; omega, .inr (Nat.le_trans HSW.out hk)⟩)
              have HO4 := Lib.hid hO4
              have HBE := Lib.hid (HB2.out.trans (hbe.mono HB2.out.size))
              have HSE := Lib.hid (Nat.le_trans HLW.out.size HBE.out.size)
              clear hv4 hb4 hbe hO4 hr4 hrq
              go_wp2_with (at_builtin; refine wpList_append_oneG rfl _ _ 22 rfl okB slBB w1.heap.size (fun k => F k ∨ w1.heap.size ≤ k) _ _ (xorAll (goodTo l s l.length)) _ rfl (by rfl) (by rfl) HO4.out HZ.out (fun _ hk => .inr hk) HT.out HSE.out ?c1)
              case c1 =>
              intro v' w' hB hb
              rw [HX.out] at hB
              go_wp2
              go_roundw
              case rel => exact ⟨k + 1, by omega, by go_num, hB, HLW.out.trans ((HBE.out.mono HLW.out.size).trans hb)⟩
              case measure => simp [intOf]; omega
      · obtain rfl : k = l.length := by omega
        go_wp2
        go_ret2
        exact ⟨_, rfl, (hO.base_ HS1.out).mono okB fun _ _ hk => hk.imp id fun h => Nat.le_trans HS1.out h, HB1.out.trans (hlw.mono HS1.out)⟩
end Go.Proofs.Ytlbnkoahkfhimaa

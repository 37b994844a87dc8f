/- Chapter 9: what mend.Worst and mend.All compute. -/
import Derived.Test.YtlbnkoahkfhimaaC12
import Derived.Test.YtlbnkoahkfhimaaC9d
namespace Go.Proofs.Ytlbnkoahkfhimaa
set_option linter.unusedVariables false
open Go Go.RowKit M
set_option maxHeartbeats 800000 in
theorem mend_Worst (a : Arr) (v : Value) (F : Fp) (w : World) (h : RdA w F v a) (hsh : Shape a.disks) :
    Calls Try.prog 48 #[v] w fun e w' => e = .returned (.int .i64 ((worstA a.disks : Nat) : Int)) ∧ Below w.heap.size w w' := by
  obtain ⟨b0, o0, c0, Ai, ci, rfl, hD, hI, hc0, hc1⟩ := RdA_open h hsh
  have hA := boxAt_new w 41 [.slice (some ⟨b0, o0, none⟩) 4 c0, .slice Ai a.ints.length ci]
  have hB := below_alloc w (.cells #[.slice (some ⟨b0, o0, none⟩) 4 c0, .slice Ai a.ints.length ci] 41)
  change BoxAt (w.alloc (.cells #[.slice (some ⟨b0, o0, none⟩) 4 c0, .slice Ai a.ints.length ci] 41)) _ _ _ at hA
  have HS := Lib.hid hsh
  clear hsh
  go_enter Try.func48, Try.ntmps48
  go_wp2_with fail
  generalize w.alloc (.cells #[.slice (some ⟨b0, o0, none⟩) 4 c0, .slice Ai a.ints.length ci] 41) = w1 at *
  replace hD := okBBB.grow hD hB
  replace hI := okIs.grow hI hB
  go_loopw [3, 5] (fun u i wr => ∃ k : Nat, k ≤ 3 ∧ i = .int .i64 k ∧ u = .int .i64 ((worstTo a.disks k : Nat) : Int) ∧ worstTo a.disks k ≤ 4 ∧ Below w1.heap.size w1 wr) (fun _ i _ => 3 - (intOf i).toNat)
  case atStart => exact ⟨0, Nat.zero_le _, rfl, rfl, Nat.zero_le _, Below.refl _ _⟩
  case round =>
    obtain ⟨k, hk, rfl, rfl, hw4, hlw⟩ := hrel
    by_cases hlt : k < 3
    · obtain ⟨x0, x1, _⟩ := (hA.grow hlw).two
      have HN := Lib.hid (worstTo_next a.disks k)
      have hbl := badL_le (cellsA a.disks k) k
      have HL := Lib.hid (show (cellsA a.disks k).length = 4 by rw [cellsA_len, HS.out.1])
      rw [HL.out] at hbl
      go_wp2_with fail
      refine (stripe_Cells a k _ _ _ ⟨_, _, rfl, okBBB.grow hD hlw, okIs.grow hI hlw⟩ HS.out hlt).mono ?_
      rintro e w2 ⟨v2, rfl, hv2, hb2⟩
      have hr2 := hv2.toRd_ okB
      clear x0 x1 hv2
      go_wp2_with fail
      refine (stripe_Bad _ k _ _ _ hr2 (by rw [HL.out]; decide)).mono ?_
      rintro e w3 ⟨v3, rfl, hv3, hb3⟩
      obtain ⟨A3, c3, rfl, _, _⟩ := (hv3.toRd_ okI).shape
      rw [ints_len]
      have HB3 := Lib.hid (hlw.trans ((hb2.trans (hb3.mono hb2.size)).mono hlw.size))
      clear hv3 hr2 hb2 hb3 hlw
      generalize (badL (cellsA a.disks k) k).length = n at *
      generalize worstTo a.disks k = m at *
      go_wp2
      go_roundw
      case rel => exact ⟨k + 1, by omega, by go_num, by rw [HN.out]; congr 1; split <;> omega, by rw [HN.out]; omega, HB3.out⟩
      case measure => simp [intOf]; omega
    · obtain rfl : k = 3 := by omega
      go_wp2
      go_ret
      exact ⟨rfl, hB.trans (hlw.mono hB.size)⟩
theorem mend_ints {a : Arr} (h : a.ints = []) (s : Int) : (mendA a s).1.ints = [] := by
  by_cases hs : s < 0 ∨ 3 ≤ s
  · rw [mend_out hs]; exact h
  · obtain ⟨s, rfl⟩ := Int.eq_ofNat_of_zero_le (show 0 ≤ s by omega)
    by_cases hd : (dataL (cellsA a.disks s) s).2 = 0
    · rw [mend_had (by omega) hd]; exact h
    · rw [mend_lost (by omega) hd]; exact h
theorem mends_ints {a : Arr} (h : a.ints = []) (k : Nat) : (mendsTo a k).ints = [] := by
  induction k with
  | zero => exact h
  | succ k ih => rw [mendsTo_next]; exact mend_ints ih _
set_option maxRecDepth 100000 in
set_option maxHeartbeats 1600000 in
theorem mend_All (a : Arr) (v : Value) (F : Fp) (w : World) (h : RdA w F v a) (hsh : Shape a.disks) (hno : a.ints = []) :
    Calls Try.prog 49 #[v] w fun e w' => ∃ v' u, e = .returned (.tuple #[v', u]) ∧ RdA w' (fun k => F k ∨ w.heap.size ≤ k) v' (mendsTo a 3) ∧ RdL RI w' (fun k => w.heap.size ≤ k) u (mendNs a 3) ∧ Below w.heap.size w w' := by
  obtain ⟨b0, o0, c0, Ai, ci, rfl, hD, hI, hc0, hc1⟩ := RdA_open h hsh
  rw [show a.ints.length = 0 by rw [hno]; rfl] at *
  obtain ⟨hA, hZ, hB, hsz⟩ := two_boxes w (.slice (some ⟨b0, o0, none⟩) 4 c0) (.slice Ai 0 ci) 41
  have hAr : RdA _ (fun k => F k ∧ k < w.heap.size) (.agg #[.slice (some ⟨b0, o0, none⟩) 4 c0, .slice Ai 0 ci]) a := ⟨_, _, rfl, okBBB.grow hD hB, okIs.grow hI hB⟩
  have HSZ := Lib.hid hsz
  have HS := Lib.hid (And.intro hsh hno)
  clear h hD hI hsz hsh hno
  go_enter Try.func49, Try.ntmps49
  go_wp2_with fail
  generalize (w.alloc (.cells #[.slice (some ⟨b0, o0, none⟩) 4 c0, .slice Ai 0 ci] 41)).alloc (.cells #[.slice none 0 0, .slice none 0 0] 41) = w1 at *
  go_loopw [4, 9] (fun u i wr => ∃ k : Nat, k ≤ 3 ∧ i = .int .i64 k ∧ (∃ dv iv, BoxAt wr w.heap.size 41 [dv, iv] ∧ RdA wr (fun q => (F q ∧ q < w.heap.size ∨ w.heap.size + 2 ≤ q) ∧ some q ≠ u.ownBlock) (.agg #[dv, iv]) (mendsTo a k)) ∧ BoxAt wr (w.heap.size + 1) 41 [.slice none 0 0, .slice none 0 0] ∧ Bld RI 3 wr (w.heap.size + 2) (fun _ => True) u (mendNs a k) ∧ Below w.heap.size w wr ∧ w.heap.size + 2 ≤ wr.heap.size) (fun _ i _ => 3 - (intOf i).toNat)
  case atStart => exact ⟨0, Nat.zero_le _, rfl, ⟨_, _, hA, hAr.mono fun q hq => ⟨.inl hq, by simp [Value.ownBlock]⟩⟩, hZ, Bld.nil_ _ _ _ _ _, hB, by rw [HSZ.out]; exact Nat.le_refl _⟩
  case round =>
    obtain ⟨k, hk, rfl, ⟨dv, iv, hA1, hR⟩, hZ1, hE, hB1, hs1⟩ := hrel
    have hsk := mends_shape HS.out.1 k
    have hik := mends_ints HS.out.2 k
    obtain ⟨b1, o1, c1, A1, c2, hag, _, _, hc11, hc12⟩ := RdA_open hR hsk
    injection hag with hag
    simp only [Array.mk.injEq, List.cons.injEq, and_true] at hag
    obtain ⟨rfl, rfl⟩ := hag
    rw [show (mendsTo a k).ints.length = 0 by rw [hik]; rfl] at hA1 hR
    obtain ⟨x0, x1, x2, x3⟩ := hA1.two
    by_cases hlt : k < 3
    rotate_left
    · obtain rfl : k = 3 := by omega
      obtain ⟨z0, z1, z2, z3⟩ := hZ1.two
      have hRb := ret_box (F' := fun k => F k ∨ w.heap.size ≤ k) hZ1 hB1 (by omega) hR (fun k hk => by omega) fun k hk => hk.1.elim (fun h => .inl h.1) fun h => .inr (by omega)
      have hE2 : Bld RI 3 (set2 wr (w.heap.size + 1) (.slice (some ⟨b1, o1, none⟩) 4 c1) (.slice A1 0 c2)) (w.heap.size + 2) (fun _ => False) u4 (mendNs a 3) := Bld.set2 okI (show Bld RI 3 wr (w.heap.size + 2) (fun _ => False) u4 (mendNs a 3) from hE) (fun q hq => by have := (hE.blk q hq).1; omega) (fun _ hq => hq.elim)
      have hE3 := hE2.toRd okI (F := fun k => w.heap.size ≤ k) (fun k hk => by omega) (fun _ hk => hk.elim)
      have HF := Lib.hid (And.intro hRb hE3)
      obtain ⟨A5, c5, rfl, _, _⟩ := hE3.shape
      clear hA1 hR hZ1 hE hB1 hRb hE2 hE3
      go_wp2_with fail
      exact bodyPost_ret (v := .tuple #[.agg #[.slice (some ⟨b1, o1, none⟩) 4 c1, .slice A1 0 c2], .slice A5 (mendNs a 3).length c5]) (by simp [results, Try.results49, go_sem, *]) rfl ⟨_, _, rfl, HF.out.1.1, HF.out.2, HF.out.1.2⟩
    have H1 := Lib.hid (And.intro hA1 (And.intro hZ1 (And.intro hB1 (And.intro hE hs1))))
    have HR := Lib.hid (And.intro hR (And.intro hsk hik))
    have HN := Lib.hid (And.intro (mendsTo_next a k) (mendNs_next a k))
    clear hA1 hR hZ1 hE hB1 hsk hik
    go_wp2_with fail
    refine (mend_Stripe (mendsTo a k) k _ _ _ HR.out.1 HR.out.2.1 HR.out.2.2).mono ?_
    rintro e w4 ⟨v4, rfl, hr4, hb4⟩
    rw [← HN.out.1] at hr4
    have hsh4 := mends_shape HS.out.1 (k + 1)
    have hi4 := mends_ints HS.out.2 (k + 1)
    obtain ⟨b3, o3, c3, A3, c4, rfl, _, _, _, _⟩ := RdA_open hr4 hsh4
    rw [show (mendsTo a (k + 1)).ints.length = 0 by rw [hi4]; rfl] at hr4 ⊢
    have HN2 := HN.out.2
    generalize (mendA (mendsTo a k) (k : Nat)).2.1 = nk at *
    generalize (mendA (mendsTo a k) (k : Nat)).2.2 = ek at *
    have HNx := Lib.hid HN2
    have hal4 := below_alloc w4 (.cells #[.slice (some ⟨b3, o3, none⟩) 4 c3, .slice A3 0 c4] 41)
    have hY4 := boxAt_new w4 41 [.slice (some ⟨b3, o3, none⟩) 4 c3, .slice A3 0 c4]
    have hb5 := hb4.trans (hal4.mono hb4.size)
    have hA5 := H1.out.1.grow hb5
    have hZ5 := H1.out.2.1.grow hb5
    have hB5 := H1.out.2.2.1.trans (hb5.mono H1.out.2.2.1.size)
    have hE5 := H1.out.2.2.2.1.grow okI hb5
    have hr5 := hr4.grow hal4
    have hs4 := hb4.size
    have hOB := H1.out.2.2.2.1.blk
    obtain ⟨w5, hw5⟩ : ∃ x, w4.alloc (.cells #[.slice (some ⟨b3, o3, none⟩) 4 c3, .slice A3 0 c4] 41) = x := ⟨_, rfl⟩
    change BoxAt (w4.alloc (.cells #[.slice (some ⟨b3, o3, none⟩) 4 c3, .slice A3 0 c4] 41)) _ _ _ at hY4
    rw [hw5] at hal4 hY4 hA5 hZ5 hB5 hE5 hr5
    obtain ⟨p0, p1, p2, p3⟩ := hY4.two
    obtain ⟨q0, q1, q2, q3⟩ := hA5.two
    have f1 : BoxAt (set2 w5 w.heap.size (.slice (some ⟨b3, o3, none⟩) 4 c3) (.slice A3 0 c4)) _ _ _ := hA5.put2
    have f2 : RdA (set2 w5 w.heap.size (.slice (some ⟨b3, o3, none⟩) 4 c3) (.slice A3 0 c4)) _ _ _ := hr5.set2 (b := w.heap.size) fun q hq => by omega
    have f3 : BoxAt (set2 w5 w.heap.size (.slice (some ⟨b3, o3, none⟩) 4 c3) (.slice A3 0 c4)) _ _ _ := hZ5.far2 (by omega)
    have f4 : Bld RI 3 (set2 w5 w.heap.size (.slice (some ⟨b3, o3, none⟩) 4 c3) (.slice A3 0 c4)) (w.heap.size + 2) (fun _ => False) u4 (mendNs a k) := Bld.set2 okI (show Bld RI 3 w5 (w.heap.size + 2) (fun _ => False) u4 (mendNs a k) from hE5) (fun q hq => by have := (hOB q hq).1; omega) (fun _ hq => hq.elim)
    have f5 := hB5.trans (below_set2 (b := w.heap.size) (v0 := .slice (some ⟨b3, o3, none⟩) 4 c3) (v1 := .slice A3 0 c4) (Nat.le_refl _))
    have f6 : w4.heap.size ≤ (set2 w5 w.heap.size (.slice (some ⟨b3, o3, none⟩) 4 c3) (.slice A3 0 c4)).heap.size := by rw [set2_size]; exact hal4.size
    obtain ⟨w6, hw6⟩ : ∃ x, set2 w5 w.heap.size (.slice (some ⟨b3, o3, none⟩) 4 c3) (.slice A3 0 c4) = x := ⟨_, rfl⟩
    rw [hw6] at f1 f2 f3 f4 f5 f6
    change (w5.setCell ⟨w.heap.size, 0, none⟩ (.slice (some ⟨b3, o3, none⟩) 4 c3)).setCell ⟨w.heap.size, 1, none⟩ (.slice A3 0 c4) = w6 at hw6
    have H := Lib.hid (And.intro f1 (And.intro (f2.mono (F' := fun q => w.heap.size + 2 ≤ q ∧ some q ≠ u4.ownBlock) fun q hq => ⟨by omega, fun e => by have := (hOB q e.symm).2; omega⟩) (And.intro f3 (And.intro f4 f5))))
    have hsz6 : w.heap.size + 2 ≤ w6.heap.size := by omega
    have HT := Lib.hid (show ((mendNs a k).length + 1) * 8 ≤ 140737488355328 by rw [mendNs_len]; omega)
    have HOB := Lib.hid hOB
    clear f1 f2 f3 f4 f5 f6 hal4 hY4 hb5 hA5 hZ5 hB5 hE5 hr5 hr4 hb4 hsh4 hi4 x0 x1 x2 x3 HN2 hOB
    go_wp2_with (at_builtin; refine wpList_append_bld _ rfl _ _ 48 (by rfl) okI slI (w.heap.size + 2) (fun _ => True) u4 _ (mendNs a k) [nk] (by rfl) (by rfl) (Bld.alloc okI (show Bld RI 3 _ (w.heap.size + 2) (fun _ => True) u4 (mendNs a k) from H.out.2.2.2.1) _) (src_one okI (show Bld RI 3 _ (w.heap.size + 2) (fun _ => True) u4 (mendNs a k) from H.out.2.2.2.1) trivial rfl _ rfl) HT.out ?c2 ?c3)
    case c2 => rw [alloc_size]; omega
    case c3 =>
    intro v' w' r1 r2 r3 r4
    rw [← HNx.out] at r1
    have hal6 := below_alloc w6 (.cells #[.int .i64 nk] 3)
    have hbl : ∀ k, k < w6.heap.size → some k ≠ u4.ownBlock → w'.heap[k]? = w6.heap[k]? := fun k hk hne => (r3.block k (by rw [alloc_size]; omega) hne).trans (hal6.block k hk)
    have n1 : BoxAt w' w.heap.size 41 [.slice (some ⟨b3, o3, none⟩) 4 c3, .slice A3 0 c4] := (hbl _ (by omega) fun e => by have := (HOB.out _ e.symm).1; omega).trans H.out.1
    have n2 : BoxAt w' (w.heap.size + 1) 41 [.slice none 0 0, .slice none 0 0] := (hbl _ (by omega) fun e => by have := (HOB.out _ e.symm).1; omega).trans H.out.2.2.1
    have n3 := (H.out.2.1.lt.keepF (w' := w') fun k hk hl => hbl k hl hk.1.2).mono (F' := fun q => (F q ∧ q < w.heap.size ∨ w.heap.size + 2 ≤ q) ∧ some q ≠ v'.ownBlock) fun q hq => ⟨.inr hq.1.1, fun e => by
      rcases r4 with r4 | r4
      · exact hq.1.2 (e.trans r4)
      · rw [r4] at e
        injection e with e
        have := hq.2
        omega⟩
    have n5 := (H.out.2.2.2.2.trans (hal6.mono (by omega))).trans (r2.mono (by omega))
    have n6 : w.heap.size + 2 ≤ w'.heap.size := by have := r3.size; rw [alloc_size] at this; omega
    have HNN := Lib.hid (And.intro n1 (And.intro n3 (And.intro n2 (And.intro r1 (And.intro n5 n6)))))
    clear n1 n2 n3 n5 n6 r1 r2 r3 r4 hbl hal6
    go_wp2
    go_roundw
    case rel => exact ⟨k + 1, by omega, by go_num, ⟨_, _, HNN.out.1, HNN.out.2.1⟩, HNN.out.2.2.1, HNN.out.2.2.2.1, HNN.out.2.2.2.2.1, HNN.out.2.2.2.2.2⟩
    case measure => simp [intOf]; omega
end Go.Proofs.Ytlbnkoahkfhimaa

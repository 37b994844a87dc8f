/- Chapter 11: what the reference's PlayGently computes. -/
import Derived.Test.YtlbnkoahkfhimaaC9e
namespace Go.Proofs.Ytlbnkoahkfhimaa
set_option linter.unusedVariables false
open Go Go.RowKit M
theorem gently_nil (n : Nat) (a : Arr) : gently n a [] = a := by unfold gently; split <;> first | rfl | contradiction
theorem gently_stop {n : Nat} {a : Arr} {s : Step} {l : List Step} (h : againA a s = true ∨ 1 < worstA (stepR a s).1.disks) : gently (n + 1) a (s :: l) = a := by
  show (if againA a s || decide (1 < worstA (stepR a s).1.disks) then a else gently n (stepR a s).1 l) = a
  rw [if_pos]
  rcases h with h | h <;> simp [h]
theorem gently_go {n : Nat} {a : Arr} {s : Step} {l : List Step} (h1 : againA a s = false) (h2 : ¬ 1 < worstA (stepR a s).1.disks) : gently (n + 1) a (s :: l) = gently n (stepR a s).1 l := by
  show (if againA a s || decide (1 < worstA (stepR a s).1.disks) then a else gently n (stepR a s).1 l) = _
  rw [if_neg]
  simp [h1, h2]
set_option maxRecDepth 100000 in
set_option maxHeartbeats 1600000 in
theorem ref_PlayGently (l : List Step) (v : Value) (F : Fp) (w : World) (h : RdSts w F v l) :
    Calls Try.prog 43 #[v] w fun e w' => ∃ v', e = .returned v' ∧ RdA w' (fun k => w.heap.size ≤ k) v' (gentlyA l) ∧ Below w.heap.size w w' := by
  obtain ⟨A, c, rfl, hlc, hm, hl⟩ := id h.lt
  unfold maxLen at hm
  have h0 := boxAt_new w 41 [.slice none 0 0, .slice none 0 0]
  have hb0 := below_alloc w (.cells #[.slice none 0 0, .slice none 0 0] 41)
  have hsz0 := alloc_size w (.cells #[.slice none 0 0, .slice none 0 0] 41)
  change BoxAt (w.alloc (.cells #[.slice none 0 0, .slice none 0 0] 41)) _ _ _ at h0
  have HL := Lib.hid h.lt
  clear hl h
  go_enter Try.func43, Try.ntmps43
  go_wp2_with fail
  generalize w.alloc (.cells #[.slice none 0 0, .slice none 0 0] 41) = w1 at *
  refine (ref_New _).mono ?_
  rintro e w2 ⟨v2, rfl, hr2, hb2⟩
  obtain ⟨b0, o0, c0, Ai, ci, rfl, _, _, _, _⟩ := RdA_open hr2 good_new.1.shape
  have hal := below_alloc w2 (.cells #[.slice (some ⟨b0, o0, none⟩) 4 c0, .slice Ai newA.ints.length ci] 41)
  have hA := boxAt_new w2 41 [.slice (some ⟨b0, o0, none⟩) 4 c0, .slice Ai newA.ints.length ci]
  have hr3 := hr2.lt.grow hal
  have hb3 := hb2.trans (hal.mono hb2.size)
  have hB := hb0.trans (hb3.mono hb0.size)
  have hZ := h0.grow hb3
  obtain ⟨w3, hw3⟩ : ∃ x, w2.alloc (.cells #[.slice (some ⟨b0, o0, none⟩) 4 c0, .slice Ai newA.ints.length ci] 41) = x := ⟨_, rfl⟩
  change BoxAt (w2.alloc (.cells #[.slice (some ⟨b0, o0, none⟩) 4 c0, .slice Ai newA.ints.length ci] 41)) _ _ _ at hA
  rw [hw3] at hA hr3 hB hZ
  obtain ⟨BA, hBA⟩ : ∃ x, w2.heap.size = x := ⟨_, rfl⟩
  rw [hBA] at hA hr3
  have hge : w.heap.size + 1 ≤ BA := by rw [← hBA, ← hsz0]; exact hb2.size
  have HH := Lib.hid (And.intro hA (And.intro hr3 (And.intro hB (And.intro hZ hge))))
  clear hal hA hr3 hb3 hB hZ hge hr2 hb2 h0 hb0
  go_wp2_with fail
  go_loopw [11] (fun i wr => ∃ (k : Nat) (a : Arr), k ≤ l.length ∧ k ≤ 100 ∧ i = .int .i64 k ∧ gently (100 - k) a (l.drop k) = gentlyA l ∧ Shape a.disks ∧ a.ints = [] ∧ (∃ dv iv, BoxAt wr BA 41 [dv, iv] ∧ RdA wr (fun q => w.heap.size + 1 ≤ q ∧ q ≠ BA) (.agg #[dv, iv]) a) ∧ BoxAt wr w.heap.size 41 [.slice none 0 0, .slice none 0 0] ∧ Below w.heap.size w wr) (fun i _ => l.length - (intOf i).toNat)
  case atStart => exact ⟨0, newA, Nat.zero_le _, Nat.zero_le _, rfl, rfl, good_new.1.shape, rfl, ⟨_, _, HH.out.1, HH.out.2.1.mono fun q hq => by omega⟩, HH.out.2.2.2.1, HH.out.2.2.1⟩
  case round =>
    obtain ⟨k, a, hk, hk1, rfl, hg, hsk, hik, ⟨dv, iv, hA, hR⟩, hZ, hB⟩ := hrel
    have HG := Lib.hid hg
    clear hg
    obtain ⟨b1, o1, c1, A1, c2, hag, _, _, hc11, hc12⟩ := RdA_open hR hsk
    injection hag with hag
    simp only [Array.mk.injEq, List.cons.injEq, and_true] at hag
    obtain ⟨rfl, rfl⟩ := hag
    rw [show a.ints.length = 0 by rw [hik]; rfl] at hA hR
    by_cases hlt : k < l.length
    rotate_left
    · have hall : a = gentlyA l := by rw [← HG.out, List.drop_of_length_le (by omega), gently_nil]
      obtain ⟨x0, x1, x2, x3⟩ := hA.two
      obtain ⟨z0, z1, z2, z3⟩ := hZ.two
      have hRb := ret_box (F' := fun k => w.heap.size ≤ k) hZ hB (Nat.le_refl _) hR (fun k hk => by omega) fun k hk => by omega
      have HF := Lib.hid (And.intro hall hRb)
      clear hall hA hR hZ hB hRb
      go_wp2_with fail
      exact bodyPost_ret (v := .agg #[.slice (some ⟨b1, o1, none⟩) 4 c1, .slice A1 0 c2]) (by simp [results, Try.results43, go_sem, *]) rfl ⟨_, rfl, by rw [← HF.out.1]; exact HF.out.2.1, HF.out.2.2⟩
    obtain ⟨s, hs⟩ : ∃ s, l[k]? = some s := ⟨_, List.getElem?_eq_getElem hlt⟩
    have HDrop := Lib.hid (show l.drop k = s :: l.drop (k + 1) by rw [List.drop_eq_getElem_cons hlt]; congr 1; exact (List.getElem?_eq_some_iff.1 hs).2)
    obtain ⟨_, _, e1, _, _, hl⟩ := HL.out.below hB fun _ hk _ => hk.2
    injection e1 with e1 e2 e3
    subst e1; subst e3
    obtain ⟨b, off, rfl, hb, hb', g0, g1, g2, g3, g4, g5, hsn, ud, g6, hud⟩ := hl k s hs
    obtain ⟨Ad, cd, rfl, _, _⟩ := hud.shape
    have hbs := hb.2
    clear hl
    have hal := below_alloc wr (.cells #[.int .i64 s.kind, .int .i64 s.n, .int .i64 s.m, .int .i64 s.deed.kind, .int .i64 s.deed.n, .int .i64 s.deed.m, .slice Ad s.deed.data.length cd] 79)
    have hX := boxAt_new wr 79 [.int .i64 s.kind, .int .i64 s.n, .int .i64 s.m, .int .i64 s.deed.kind, .int .i64 s.deed.n, .int .i64 s.deed.m, .slice Ad s.deed.data.length cd]
    obtain ⟨wx, hwx⟩ : ∃ x, wr.alloc (.cells #[.int .i64 s.kind, .int .i64 s.n, .int .i64 s.m, .int .i64 s.deed.kind, .int .i64 s.deed.n, .int .i64 s.deed.m, .slice Ad s.deed.data.length cd] 79) = x := ⟨_, rfl⟩
    change BoxAt (wr.alloc (.cells #[.int .i64 s.kind, .int .i64 s.n, .int .i64 s.m, .int .i64 s.deed.kind, .int .i64 s.deed.n, .int .i64 s.deed.m, .slice Ad s.deed.data.length cd] 79)) _ _ _ at hX
    rw [hwx] at hal hX
    have hst : RdSt wx (fun k => k < w.heap.size) (.agg #[.int .i64 s.kind, .int .i64 s.n, .int .i64 s.m, .int .i64 s.deed.kind, .int .i64 s.deed.n, .int .i64 s.deed.m, .slice Ad s.deed.data.length cd]) s := ⟨_, rfl, hsn, okB.mono (okB.grow hud hal) fun k hk => hk.2⟩
    have hA2 := hA.grow hal
    have hR2 := hR.grow hal
    have hZ2 := hZ.grow hal
    have hB2 := hB.trans (hal.mono hB.size)
    obtain ⟨x0, x1, x2, x3⟩ := hA2.two
    obtain ⟨y0, y1, y2, y3, y4, y5, y6⟩ := hX.seven
    have H1 := Lib.hid (And.intro hA2 (And.intro hZ2 (And.intro hB2 hX)))
    have HST := Lib.hid (And.intro hR2 hst)
    have HSK := Lib.hid (And.intro hsk hik)
    have hszx := hB2.size
    clear hA hR hZ hB hA2 hR2 hZ2 hB2 hX hst hud hal hsk hik hs
    go_wp2_with fail
    refine (ref_Step a s _ _ _ _ HST.out.1 HST.out.2 HSK.out.1 HSK.out.2).mono ?_
    rintro e w4 ⟨v4, rfl, hr4, hb4⟩
    obtain ⟨hsh4, hi4⟩ := stepR_good HSK.out.1 HSK.out.2 s
    have GS := Lib.hid (@gently_stop (99 - k) a s (l.drop (k + 1)))
    have GG := Lib.hid (@gently_go (99 - k) a s (l.drop (k + 1)))
    generalize (stepR a s).2 = er at *
    generalize (stepR a s).1 = x at *
    obtain ⟨b3, o3, c3, A3, c4, rfl, _, _, _, _⟩ := RdA_open hr4 hsh4
    rw [show x.ints.length = 0 by rw [hi4]; rfl] at hr4 ⊢
    have hal4 := below_alloc w4 (.cells #[.slice (some ⟨b3, o3, none⟩) 4 c3, .slice A3 0 c4] 41)
    have hY4 := boxAt_new w4 41 [.slice (some ⟨b3, o3, none⟩) 4 c3, .slice A3 0 c4]
    have hb5 := hb4.trans (hal4.mono hb4.size)
    have hA5 := H1.out.1.grow hb5
    have hZ5 := H1.out.2.1.grow hb5
    have hB5 := H1.out.2.2.1.trans (hb5.mono H1.out.2.2.1.size)
    have hX5 := H1.out.2.2.2.grow hb5
    have hr5 := hr4.grow hal4
    have hR5 := HST.out.1.grow hb5
    obtain ⟨dv5, e5, hsn5, hd5⟩ := HST.out.2
    have hst5 : RdSt (w4.alloc (.cells #[.slice (some ⟨b3, o3, none⟩) 4 c3, .slice A3 0 c4] 41)) (fun k => k < w.heap.size) _ s := ⟨dv5, e5, hsn5, okB.grow hd5 hb5⟩
    have hs4 := hb4.size
    have hBAx := H1.out.1.lt
    obtain ⟨w5, hw5⟩ : ∃ x, w4.alloc (.cells #[.slice (some ⟨b3, o3, none⟩) 4 c3, .slice A3 0 c4] 41) = x := ⟨_, rfl⟩
    change BoxAt (w4.alloc (.cells #[.slice (some ⟨b3, o3, none⟩) 4 c3, .slice A3 0 c4] 41)) _ _ _ at hY4
    rw [hw5] at hal4 hY4 hA5 hZ5 hB5 hr5 hX5 hst5 hR5
    have hge := HH.out.2.2.2.2
    have HW := Lib.hid hw5
    obtain ⟨Y4, hY⟩ : ∃ y, w4.heap.size = y := ⟨_, rfl⟩
    rw [hY] at hY4
    have HY := Lib.hid (And.intro hY4 (And.intro hr5 (And.intro hst5 (And.intro hR5 (And.intro hsh4 hi4)))))
    have H5 := Lib.hid (And.intro hA5 (And.intro hZ5 (And.intro hB5 hX5)))
    obtain ⟨p0, p1, p2, p3⟩ := hY4.two
    obtain ⟨q0, q1, q2, q3⟩ := hA5.two
    obtain ⟨z0, z1, z2, z3⟩ := hZ5.two
    obtain ⟨u0, u1, u2, u3, u4, u5, u6⟩ := hX5.seven
    clear dv5 e5 hsn5 hd5 hal4 hY4 hb5 hA5 hZ5 hB5 hX5 hr5 hR5 hst5 hr4 hb4 hsh4 hi4 x0 x1 x2 x3 y0 y1 y2 y3 y4 y5 y6
    by_cases h100 : k = 100
    · have hall : a = gentlyA l := by rw [← HG.out, h100]; unfold gently; rfl
      have hRb := ret_box (F' := fun k => w.heap.size ≤ k) H5.out.2.1 H5.out.2.2.1 (Nat.le_refl _) HY.out.2.2.2.1 (fun k hk => by omega) fun k hk => by omega
      have HF := Lib.hid (And.intro hall hRb)
      clear hall hRb
      subst h100
      go_wp2_with fail
      exact bodyPost_ret (v := .agg #[.slice (some ⟨b1, o1, none⟩) 4 c1, .slice A1 0 c2]) (by simp [results, Try.results43, go_sem, *]) rfl ⟨_, rfl, by rw [← HF.out.1]; exact HF.out.2.1, HF.out.2.2⟩
    have hk99 : k < 100 := by omega
    have hne100 : ((k : Int) == 100) = false := by simp; omega
    have HNow := Lib.hid (show gently (99 - k + 1) a (s :: l.drop (k + 1)) = gentlyA l by rw [← HG.out, HDrop.out]; congr 1; omega)
    clear h100
    go_wp2_with fail
    refine (ref_Again a s _ _ _ _ HY.out.2.2.2.1 HY.out.2.2.1 HSK.out.1).mono ?_
    rintro e w6 ⟨rfl, hb6⟩
    have hA6 := H5.out.1.grow hb6
    have hZ6 := H5.out.2.1.grow hb6
    have hB6 := H5.out.2.2.1.trans (hb6.mono H5.out.2.2.1.size)
    have hY6 := HY.out.1.grow hb6
    have hx6 := HY.out.2.1.grow hb6
    have hR6 := HY.out.2.2.2.1.grow hb6
    have HY6 := Lib.hid (And.intro hY6 (And.intro hx6 hR6))
    have H6 := Lib.hid (And.intro hA6 (And.intro hZ6 hB6))
    clear p0 p1 p2 p3 q0 q1 q2 q3 z0 z1 z2 z3 u0 u1 u2 u3 u4 u5 u6
    obtain ⟨p0, p1, p2, p3⟩ := hY6.two
    obtain ⟨q0, q1, q2, q3⟩ := hA6.two
    obtain ⟨z0, z1, z2, z3⟩ := hZ6.two
    clear hA6 hZ6 hB6 hY6 hx6 hR6 hb6
    by_cases hag : againA a s = true
    · have hall : a = gentlyA l := by rw [← HNow.out]; exact (GS.out (.inl hag)).symm
      have hRb := ret_box (F' := fun k => w.heap.size ≤ k) H6.out.2.1 H6.out.2.2 (Nat.le_refl _) HY6.out.2.2 (fun k hk => by omega) fun k hk => by omega
      have HF := Lib.hid (And.intro hall hRb)
      rw [hag]
      clear hall hRb hag
      go_wp2_with fail
      exact bodyPost_ret (v := .agg #[.slice (some ⟨b1, o1, none⟩) 4 c1, .slice A1 0 c2]) (by simp [results, Try.results43, go_sem, *]) rfl ⟨_, rfl, by rw [← HF.out.1]; exact HF.out.2.1, HF.out.2.2⟩
    have hag' : againA a s = false := by simpa using hag
    rw [hag']
    have HAG := Lib.hid hag'
    clear hag hag'
    go_wp2_with fail
    refine (ref_Worst x _ _ _ HY6.out.2.1 HY.out.2.2.2.2.1).mono ?_
    rintro e w7 ⟨rfl, hb7⟩
    have hA7 := H6.out.1.grow hb7
    have hZ7 := H6.out.2.1.grow hb7
    have hB7 := H6.out.2.2.trans (hb7.mono H6.out.2.2.size)
    have hY7 := HY6.out.1.grow hb7
    have hx7 := HY6.out.2.1.grow hb7
    have hR7 := HY6.out.2.2.grow hb7
    clear p0 p1 p2 p3 q0 q1 q2 q3 z0 z1 z2 z3
    obtain ⟨p0, p1, p2, p3⟩ := hY7.two
    obtain ⟨q0, q1, q2, q3⟩ := hA7.two
    obtain ⟨z0, z1, z2, z3⟩ := hZ7.two
    by_cases hw1 : 1 < worstA x.disks
    · have hall : a = gentlyA l := by rw [← HNow.out]; exact (GS.out (.inr hw1)).symm
      have hRb := ret_box (F' := fun k => w.heap.size ≤ k) hZ7 hB7 (Nat.le_refl _) hR7 (fun k hk => by omega) fun k hk => by omega
      have HF := Lib.hid (And.intro hall hRb)
      have hd : decide ((1 : Int) < ((worstA x.disks : Nat) : Int)) = true := by simp; omega
      clear hall hRb hA7 hZ7 hB7 hY7 hx7 hR7 hb7 hw1
      generalize ((worstA x.disks : Nat) : Int) = ww at *
      go_wp2_with fail
      exact bodyPost_ret (v := .agg #[.slice (some ⟨b1, o1, none⟩) 4 c1, .slice A1 0 c2]) (by simp [results, Try.results43, go_sem, *]) rfl ⟨_, rfl, by rw [← HF.out.1]; exact HF.out.2.1, HF.out.2.2⟩
    have hd : decide ((1 : Int) < ((worstA x.disks : Nat) : Int)) = false := by simp; omega
    have hgo := (GG.out HAG.out hw1).symm.trans HNow.out
    have f1 : BoxAt (set2 w7 BA (.slice (some ⟨b3, o3, none⟩) 4 c3) (.slice A3 0 c4)) _ _ _ := hA7.put2
    have f2 : RdA (set2 w7 BA (.slice (some ⟨b3, o3, none⟩) 4 c3) (.slice A3 0 c4)) _ _ _ := hx7.set2 (b := BA) fun q hq => by omega
    have f3 : BoxAt (set2 w7 BA (.slice (some ⟨b3, o3, none⟩) 4 c3) (.slice A3 0 c4)) _ _ _ := hZ7.far2 (by omega)
    have f5 := hB7.trans (below_set2 (b := BA) (v0 := .slice (some ⟨b3, o3, none⟩) 4 c3) (v1 := .slice A3 0 c4) (by omega))
    have H := Lib.hid (And.intro f1 (And.intro (f2.mono (F' := fun q => w.heap.size + 1 ≤ q ∧ q ≠ BA) fun q hq => by omega) (And.intro f3 (And.intro f5 hgo))))
    clear f1 f2 f3 f5 hgo hA7 hZ7 hB7 hY7 hx7 hR7 hb7 hw1
    generalize ((worstA x.disks : Nat) : Int) = ww at *
    go_wp2_with fail
    go_roundw
    case rel => exact ⟨k + 1, x, by omega, by omega, by go_num, by rw [show 100 - (k + 1) = 99 - k by omega]; exact H.out.2.2.2.2, HY.out.2.2.2.2.1, HY.out.2.2.2.2.2, ⟨_, _, H.out.1, H.out.2.1⟩, H.out.2.2.1, H.out.2.2.2.1⟩
    case measure => simp [intOf]; omega
end Go.Proofs.Ytlbnkoahkfhimaa

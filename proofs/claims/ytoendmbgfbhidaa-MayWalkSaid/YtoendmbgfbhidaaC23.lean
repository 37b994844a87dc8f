/- Chapter 11: what play.Play computes: the walk. -/
import Derived.Test.YtoendmbgfbhidaaC22
import Derived.Test.YtoendmbgfbhidaaOpenS
import Derived.Test.YtoendmbgfbhidaaC14
namespace Go.Proofs.Ytoendmbgfbhidaa
set_option linter.unusedVariables false
open Go Go.RowKit M
theorem stepP_good {a : Arr} (hs : Shape a.disks) (hn : a.ints = []) (s : Step) : Shape (stepP a s).1.disks ∧ (stepP a s).1.ints = [] := by
  unfold stepP stepK
  split
  · by_cases he : (planA a.disks s.deed).2 = 0
    · rw [doA_okA he]; exact ⟨putTo_shape hs _ (intOk_plan hs he).2.2.2 _, rfl⟩
    · rw [doA_bad he]; exact ⟨hs, hn⟩
  · split
    · split
      · exact ⟨hs, hn⟩
      · rename_i he
        have he' : (planA a.disks s.deed).2 = 0 := by simpa using he
        have hi := intOk_plan hs he'
        rcases mount_half (.inl rfl) hs hn (i := (planA a.disks s.deed).1) hi.2.1 hi.2.2.2 s.n with e | e
        · simp only [e]; exact ⟨hs, hn⟩
        · simp only [e]; exact ⟨putTo_shape hs _ hi.2.2.2 4, rfl⟩
    · split
      · split
        · exact ⟨hs, hn⟩
        · refine ⟨rot_shape hs _ _ _, ?_⟩
          rcases rot_cases a (s.n / 3) (s.n % 3) s.m with e | ⟨_, _, _, _, _, _, _, _, _, e⟩ <;> rw [e] <;> exact hn
      · split
        · refine ⟨gone_shape' hs _, ?_⟩
          rcases gone_cases a s.n with e | ⟨_, _, _, e⟩ <;> rw [e] <;> exact hn
        · split
          · refine ⟨mend_shape hs _, ?_⟩
            unfold mendA
            split
            · exact hn
            · simp only []
              split
              · exact hn
              · exact hn
          · exact ⟨hs, hn⟩
/-- The steps, as far as they are played, and each one's error. -/
def runTo (l : List Step) (k : Nat) : Arr × List Int := (l.take k).foldl (fun p s => ((stepP p.1 s).1, p.2 ++ [(stepP p.1 s).2])) (newA, [])
def playPTo (l : List Step) (k : Nat) : Arr := (runTo l k).1
def errsTo (l : List Step) (k : Nat) : List Int := (runTo l k).2
theorem runTo_next {l : List Step} {k : Nat} {s : Step} (h : l[k]? = some s) : runTo l (k + 1) = ((stepP (runTo l k).1 s).1, (runTo l k).2 ++ [(stepP (runTo l k).1 s).2]) := by
  have hl := (List.getElem?_eq_some_iff.1 h).1
  have he := (List.getElem?_eq_some_iff.1 h).2
  unfold runTo
  rw [List.take_succ_eq_append_getElem hl, List.foldl_append, he]
  rfl
theorem playPTo_next {l : List Step} {k : Nat} {s : Step} (h : l[k]? = some s) : playPTo l (k + 1) = (stepP (playPTo l k) s).1 := by unfold playPTo; rw [runTo_next h]
theorem errsTo_next {l : List Step} {k : Nat} {s : Step} (h : l[k]? = some s) : errsTo l (k + 1) = errsTo l k ++ [(stepP (playPTo l k) s).2] := by unfold errsTo playPTo; rw [runTo_next h]
theorem playPTo_good (l : List Step) (k : Nat) : Shape (playPTo l k).disks ∧ (playPTo l k).ints = [] := by
  induction k with
  | zero => exact ⟨good_new.1.shape, rfl⟩
  | succ k ih =>
    by_cases h : k < l.length
    · rw [playPTo_next (List.getElem?_eq_getElem h)]
      exact stepP_good ih.1 ih.2 _
    · have : playPTo l (k + 1) = playPTo l k := by unfold playPTo runTo; rw [List.take_of_length_le (by omega), List.take_of_length_le (by omega)]
      rw [this]; exact ih
set_option maxRecDepth 100000 in
set_option maxHeartbeats 1600000 in
theorem play_Play (l : List Step) (v : Value) (F : Fp) (w : World) (h : RdSts w F v l) (hlen : l.length ≤ 100) (hlo : Lo l) :
    Calls Try.prog 43 #[v] w fun e w' => ∃ v' u, e = .returned (.tuple #[v', u, .int .i64 0]) ∧ RdA w' (fun k => w.heap.size ≤ k) v' (playPTo l l.length) ∧ RdL RI w' (fun k => w.heap.size ≤ k) u (errsTo l l.length) ∧ Below w.heap.size w w' := by
  obtain ⟨A, c, rfl, hlc, hm, hl⟩ := id h.lt
  unfold maxLen at hm
  have h0 := boxAt_new w 30 [.slice none 0 0, .slice none 0 0]
  have hb0 := below_alloc w (.cells #[.slice none 0 0, .slice none 0 0] 30)
  have hsz0 := alloc_size w (.cells #[.slice none 0 0, .slice none 0 0] 30)
  change BoxAt (w.alloc (.cells #[.slice none 0 0, .slice none 0 0] 30)) _ _ _ at h0
  have HL := Lib.hid h.lt
  have d100 : decide ((100 : Int) < (l.length : Int)) = false := by simp; omega
  have HLO := Lib.hid hlo
  clear hl h hlo
  go_enter Try.func43, Try.ntmps43
  go_wp2_with fail
  generalize w.alloc (.cells #[.slice none 0 0, .slice none 0 0] 30) = w1 at *
  refine (array_New _).mono ?_
  rintro e w2 ⟨v2, rfl, hr2, hb2⟩
  obtain ⟨b0, o0, c0, Ai, ci, rfl, _, _, _, _⟩ := RdA_open hr2 good_new.1.shape
  have hal := below_alloc w2 (.cells #[.slice (some ⟨b0, o0, none⟩) 4 c0, .slice Ai newA.ints.length ci] 30)
  have hA := boxAt_new w2 30 [.slice (some ⟨b0, o0, none⟩) 4 c0, .slice Ai newA.ints.length ci]
  have hr3 := hr2.lt.grow hal
  have hb3 := hb2.trans (hal.mono hb2.size)
  have hB := hb0.trans (hb3.mono hb0.size)
  have hZ := h0.grow hb3
  obtain ⟨w3, hw3⟩ : ∃ x, w2.alloc (.cells #[.slice (some ⟨b0, o0, none⟩) 4 c0, .slice Ai newA.ints.length ci] 30) = x := ⟨_, rfl⟩
  change BoxAt (w2.alloc (.cells #[.slice (some ⟨b0, o0, none⟩) 4 c0, .slice Ai newA.ints.length ci] 30)) _ _ _ at hA
  rw [hw3] at hA hr3 hB hZ
  obtain ⟨BA, hBA⟩ : ∃ x, w2.heap.size = x := ⟨_, rfl⟩
  rw [hBA] at hA hr3
  have hge : w.heap.size + 1 ≤ BA := by rw [← hBA, ← hsz0]; exact hb2.size
  have HH := Lib.hid (And.intro hA (And.intro hr3 (And.intro hB (And.intro hZ hge))))
  clear hal hA hr3 hb3 hB hZ hge hr2 hb2 h0 hb0
  go_wp2_with fail
  go_loopw [6, 18] (fun u i wr => ∃ (k : Nat) (es : List Int), k ≤ l.length ∧ k ≤ 100 ∧ i = .int .i64 k ∧ (∃ dv iv, BoxAt wr BA 30 [dv, iv] ∧ RdA wr (fun q => w.heap.size + 1 ≤ q ∧ q ≠ BA ∧ some q ≠ u.ownBlock) (.agg #[dv, iv]) (playPTo l k)) ∧ BoxAt wr w.heap.size 30 [.slice none 0 0, .slice none 0 0] ∧ Bld RI 35 wr (w.heap.size + 1) (fun _ => True) u es ∧ (es.length = k ∧ es = errsTo l k) ∧ (∀ q, u.ownBlock = some q → q ≠ BA) ∧ Below w.heap.size w wr) (fun _ i _ => l.length - (intOf i).toNat)
  case atStart => exact ⟨0, [], Nat.zero_le _, Nat.zero_le _, rfl, ⟨_, _, HH.out.1, HH.out.2.1.mono fun q hq => ⟨by omega, by omega, by simp [Value.ownBlock]⟩⟩, HH.out.2.2.2.1, Bld.nil_ _ _ _ _ _, ⟨rfl, rfl⟩, fun q hq => by simp [Value.ownBlock] at hq, HH.out.2.2.1⟩
  case round =>
    obtain ⟨k, es, hk, hk1, rfl, ⟨dv, iv, hA, hR⟩, hZ, hE, hel, hne, hB⟩ := hrel
    obtain ⟨hsk, hik⟩ := playPTo_good l k
    obtain ⟨b1, o1, c1, A1, c2, hag, _, _, hc11, hc12⟩ := RdA_open hR hsk
    injection hag with hag
    simp only [Array.mk.injEq, List.cons.injEq, and_true] at hag
    obtain ⟨rfl, rfl⟩ := hag
    rw [show (playPTo l k).ints.length = 0 by rw [hik]; rfl] at hA hR
    by_cases hlt : k < l.length
    rotate_left
    · obtain rfl : k = l.length := by omega
      obtain ⟨x0, x1, x2, x3⟩ := hA.two
      obtain ⟨z0, z1, z2, z3⟩ := hZ.two
      have hRb := ret_box (F' := fun k => w.heap.size ≤ k) hZ hB (Nat.le_refl _) hR (fun k hk => by omega) fun k hk => by omega
      have h5 : RdL RI wr (fun q => w.heap.size + 1 ≤ q) u6 es := Bld.toRd okI (show Bld RI 35 wr (w.heap.size + 1) (fun _ => False) u6 es from hE) (fun _ hq => hq) (fun _ hq => hq.elim)
      rw [hel.2] at h5
      have hel2 := hel.1
      rw [hel.2] at hel2
      have h6 : RdL RI (set2 wr w.heap.size (.slice (some ⟨b1, o1, none⟩) 4 c1) (.slice A1 0 c2)) _ u6 _ := (okL okI).set2 h5 (b := w.heap.size) fun q hq => by omega
      have h7 := (okL okI).mono h6 (F' := fun q => w.heap.size ≤ q) fun q hq => by omega
      obtain ⟨A5, c5, rfl, _, _⟩ := h5.shape
      have HF := Lib.hid (And.intro hRb h7)
      clear hA hR hZ hE hB hRb h5 h6 h7 hel hne
      go_wp2_with fail
      exact bodyPost_ret (v := .tuple #[.agg #[.slice (some ⟨b1, o1, none⟩) 4 c1, .slice A1 0 c2], .slice A5 (errsTo l l.length).length c5, .int .i64 0]) (by simp [results, Try.results43, go_sem, *]) rfl ⟨_, _, rfl, HF.out.1.1, HF.out.2, HF.out.1.2⟩
    obtain ⟨s, hs⟩ : ∃ s, l[k]? = some s := ⟨_, List.getElem?_eq_getElem hlt⟩
    obtain ⟨_, _, e1, _, _, hl⟩ := HL.out.below hB fun _ hk _ => hk.2
    injection e1 with e1 e2 e3
    subst e1; subst e3
    obtain ⟨b, off, rfl, hb, hb', g0, g1, g2, g3, g4, g5, hsn, ud, g6, hud⟩ := hl k s hs
    obtain ⟨Ad, cd, rfl, _, _⟩ := hud.shape
    have hbs := hb.2
    clear hl
    have hal := below_alloc wr (.cells #[.int .i64 s.kind, .int .i64 s.n, .int .i64 s.m, .int .i64 s.deed.kind, .int .i64 s.deed.n, .int .i64 s.deed.m, .slice Ad s.deed.data.length cd] 68)
    have hX := boxAt_new wr 68 [.int .i64 s.kind, .int .i64 s.n, .int .i64 s.m, .int .i64 s.deed.kind, .int .i64 s.deed.n, .int .i64 s.deed.m, .slice Ad s.deed.data.length cd]
    obtain ⟨wx, hwx⟩ : ∃ x, wr.alloc (.cells #[.int .i64 s.kind, .int .i64 s.n, .int .i64 s.m, .int .i64 s.deed.kind, .int .i64 s.deed.n, .int .i64 s.deed.m, .slice Ad s.deed.data.length cd] 68) = x := ⟨_, rfl⟩
    change BoxAt (wr.alloc (.cells #[.int .i64 s.kind, .int .i64 s.n, .int .i64 s.m, .int .i64 s.deed.kind, .int .i64 s.deed.n, .int .i64 s.deed.m, .slice Ad s.deed.data.length cd] 68)) _ _ _ at hX
    rw [hwx] at hal hX
    have hA2 := hA.grow hal
    have hR2 := hR.grow hal
    have hZ2 := hZ.grow hal
    have hB2 := hB.trans (hal.mono hB.size)
    have hE2 := hE.grow okI hal
    have hst : RdSt wx (fun k => k < w.heap.size) (.agg #[.int .i64 s.kind, .int .i64 s.n, .int .i64 s.m, .int .i64 s.deed.kind, .int .i64 s.deed.n, .int .i64 s.deed.m, .slice Ad s.deed.data.length cd]) s := ⟨_, rfl, hsn, okB.mono (okB.grow hud hal) fun k hk => hk.2⟩
    obtain ⟨x0, x1, x2, x3⟩ := hA2.two
    obtain ⟨y0, y1, y2, y3, y4, y5, y6⟩ := hX.seven
    have H1 := Lib.hid (And.intro hA2 (And.intro hZ2 (And.intro hB2 hE2)))
    have HST := Lib.hid (And.intro hR2 hst)
    have HN := Lib.hid (playPTo_next hs)
    have HER := Lib.hid (errsTo_next hs)
    have HSL := Lib.hid (HLO.out s (List.mem_of_getElem? hs))
    have HSK := Lib.hid (And.intro hsk hik)
    have hszx := hB2.size
    have HELen := Lib.hid hel
    have HNE := Lib.hid hne
    clear hA hR hZ hE hB hA2 hR2 hZ2 hE2 hB2 hX hst hud hal hsk hik hs hel hne
    go_wp2_with fail
    refine (play_Do (playPTo l k) s _ _ _ _ HST.out.1 HST.out.2 HSK.out.1 HSK.out.2 HSL.out).mono ?_
    rintro e w4 ⟨v4, rfl, hr4, hb4⟩
    rw [← HN.out] at hr4
    obtain ⟨hsh4, hi4⟩ := playPTo_good l (k + 1)
    obtain ⟨b3, o3, c3, A3, c4, rfl, _, _, _, _⟩ := RdA_open hr4 hsh4
    rw [show (playPTo l (k + 1)).ints.length = 0 by rw [hi4]; rfl] at hr4 ⊢
    generalize (stepP (playPTo l k) s).2 = er at *
    have hal4 := below_alloc w4 (.cells #[.slice (some ⟨b3, o3, none⟩) 4 c3, .slice A3 0 c4] 30)
    have hY4 := boxAt_new w4 30 [.slice (some ⟨b3, o3, none⟩) 4 c3, .slice A3 0 c4]
    have hb5 := hb4.trans (hal4.mono hb4.size)
    have hA5 := H1.out.1.grow hb5
    have hZ5 := H1.out.2.1.grow hb5
    have hB5 := H1.out.2.2.1.trans (hb5.mono H1.out.2.2.1.size)
    have hE5 := H1.out.2.2.2.grow okI hb5
    have hr5 := hr4.grow hal4
    have hs4 := hb4.size
    have hBAx := H1.out.1.lt
    obtain ⟨w5, hw5⟩ : ∃ x, w4.alloc (.cells #[.slice (some ⟨b3, o3, none⟩) 4 c3, .slice A3 0 c4] 30) = x := ⟨_, rfl⟩
    change BoxAt (w4.alloc (.cells #[.slice (some ⟨b3, o3, none⟩) 4 c3, .slice A3 0 c4] 30)) _ _ _ at hY4
    rw [hw5] at hal4 hY4 hA5 hZ5 hB5 hE5 hr5
    obtain ⟨p0, p1, p2, p3⟩ := hY4.two
    obtain ⟨q0, q1, q2, q3⟩ := hA5.two
    have hge := HH.out.2.2.2.2
    have f1 : BoxAt (set2 w5 BA (.slice (some ⟨b3, o3, none⟩) 4 c3) (.slice A3 0 c4)) _ _ _ := hA5.put2
    have f2 : RdA (set2 w5 BA (.slice (some ⟨b3, o3, none⟩) 4 c3) (.slice A3 0 c4)) _ _ _ := hr5.set2 (b := BA) fun q hq => by omega
    have f3 : BoxAt (set2 w5 BA (.slice (some ⟨b3, o3, none⟩) 4 c3) (.slice A3 0 c4)) _ _ _ := hZ5.far2 (by omega)
    have f4 : Bld RI 35 (set2 w5 BA (.slice (some ⟨b3, o3, none⟩) 4 c3) (.slice A3 0 c4)) (w.heap.size + 1) (fun _ => False) u6 es := Bld.set2 okI (show Bld RI 35 w5 (w.heap.size + 1) (fun _ => False) u6 es from hE5) (fun q hq => HNE.out q hq) (fun _ hq => hq.elim)
    have f5 := hB5.trans (below_set2 (b := BA) (v0 := .slice (some ⟨b3, o3, none⟩) 4 c3) (v1 := .slice A3 0 c4) (by omega))
    obtain ⟨w6, hw6⟩ : ∃ x, set2 w5 BA (.slice (some ⟨b3, o3, none⟩) 4 c3) (.slice A3 0 c4) = x := ⟨_, rfl⟩
    rw [hw6] at f1 f2 f3 f4 f5
    change (w5.setCell ⟨BA, 0, none⟩ (.slice (some ⟨b3, o3, none⟩) 4 c3)).setCell ⟨BA, 1, none⟩ (.slice A3 0 c4) = w6 at hw6
    have H := Lib.hid (And.intro f1 (And.intro (f2.mono (F' := fun q => w.heap.size + 1 ≤ q ∧ q ≠ BA ∧ some q ≠ u6.ownBlock) fun q hq => ⟨by omega, by omega, fun e => by have := (H1.out.2.2.2.blk q e.symm).2; omega⟩) (And.intro f3 (And.intro f4 f5))))
    have hsz6 : w.heap.size + 1 ≤ w6.heap.size := by have := f1.lt; omega
    have HBA6 := Lib.hid f1.lt
    have HT := Lib.hid (show (es.length + 1) * 8 ≤ 140737488355328 by have := HELen.out.1; omega)
    clear f1 f2 f3 f4 f5 hal4 hY4 hb5 hA5 hZ5 hB5 hE5 hr5 hr4 hb4 hsh4 hi4 x0 x1 x2 x3 y0 y1 y2 y3 y4 y5 y6
    go_wp2_with (at_builtin; refine wpList_append_bld _ rfl _ _ 32 (by rfl) okI slE (w.heap.size + 1) (fun _ => True) u6 _ es [er] (by rfl) (by rfl) (Bld.alloc okI (show Bld RI 35 _ (w.heap.size + 1) (fun _ => True) u6 es from H.out.2.2.2.1) _) (src_one okI (show Bld RI 35 _ (w.heap.size + 1) (fun _ => True) u6 es from H.out.2.2.2.1) trivial rfl _ rfl) HT.out ?c2 ?c3)
    case c2 => rw [alloc_size]; omega
    case c3 =>
    intro v' w' r1 r2 r3 r4
    have hal6 := below_alloc w6 (.cells #[.int .i64 er] 35)
    have hbl : ∀ k, k < w6.heap.size → some k ≠ u6.ownBlock → w'.heap[k]? = w6.heap[k]? := fun k hk hne => (r3.block k (by rw [alloc_size]; omega) hne).trans (hal6.block k hk)
    have h6 := H.out.1
    have n1 : BoxAt w' BA 30 [.slice (some ⟨b3, o3, none⟩) 4 c3, .slice A3 0 c4] := (hbl BA HBA6.out fun e => HNE.out BA e.symm rfl).trans H.out.1
    have n2 : BoxAt w' w.heap.size 30 [.slice none 0 0, .slice none 0 0] := (hbl _ (by omega) fun e => by have := (H.out.2.2.2.1.blk _ e.symm).1; omega).trans H.out.2.2.1
    have n3 := (H.out.2.1.lt.keepF (w' := w') fun k hk hl => hbl k hl hk.1.2.2).mono (F' := fun q => w.heap.size + 1 ≤ q ∧ q ≠ BA ∧ some q ≠ v'.ownBlock) fun q hq => ⟨hq.1.1, hq.1.2.1, fun e => by
      rcases r4 with r4 | r4
      · exact hq.1.2.2 (e.trans r4)
      · rw [r4] at e
        injection e with e
        have := hq.2
        omega⟩
    have n4 : ∀ q, v'.ownBlock = some q → q ≠ BA := fun q hq e => by
      rcases r4 with r4 | r4
      · exact HNE.out q (r4 ▸ hq) e
      · rw [hq] at r4
        injection r4 with r4
        have := HBA6.out
        omega
    have n5 := (H.out.2.2.2.2.trans (hal6.mono (by omega))).trans (r2.mono (Nat.le_succ _))
    have HN2 := Lib.hid (And.intro n1 (And.intro n3 (And.intro n2 (And.intro r1 (And.intro n4 n5)))))
    clear n1 n2 n3 n4 n5 r1 r2 r3 r4 hbl h6 hal6
    go_wp2
    go_roundw
    case rel => exact ⟨k + 1, es ++ [er], by omega, by omega, by go_num, ⟨_, _, HN2.out.1, HN2.out.2.1⟩, HN2.out.2.2.1, HN2.out.2.2.2.1, ⟨by rw [List.length_append, HELen.out.1]; rfl, by rw [HER.out, ← HELen.out.2]⟩, HN2.out.2.2.2.2.1, HN2.out.2.2.2.2.2⟩
    case measure => simp [intOf]; omega
end Go.Proofs.Ytoendmbgfbhidaa

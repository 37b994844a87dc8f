/- Chapter 11: what the reference's Play computes. -/
import Derived.Test.YtlbnkoahkfhimaaC9c
namespace Go.Proofs.Ytlbnkoahkfhimaa
set_option linter.unusedVariables false
open Go Go.RowKit M
/-- A list of steps, seven cells each. -/
def RdSts (w : World) (F : Fp) (v : Value) (l : List Step) : Prop := ∃ A c, v = .slice A l.length c ∧ l.length ≤ c ∧ c ≤ maxLen ∧ ∀ (j : Nat) (s : Step), l[j]? = some s → ∃ b off, A = some ⟨b, off, none⟩ ∧ F b ∧ b < w.heap.size ∧ w.cell? ⟨b, off + j * 7, none⟩ = some (.int .i64 s.kind) ∧ w.cell? ⟨b, off + j * 7 + 1, none⟩ = some (.int .i64 s.n) ∧ w.cell? ⟨b, off + j * 7 + 2, none⟩ = some (.int .i64 s.m) ∧
  w.cell? ⟨b, off + j * 7 + 3, none⟩ = some (.int .i64 s.deed.kind) ∧ w.cell? ⟨b, off + j * 7 + 4, none⟩ = some (.int .i64 s.deed.n) ∧ w.cell? ⟨b, off + j * 7 + 5, none⟩ = some (.int .i64 s.deed.m) ∧ s.n ≤ 9223372036854775807 ∧ ∃ u, w.cell? ⟨b, off + j * 7 + 6, none⟩ = some u ∧ RdB w F u s.deed.data
theorem RdSts.below {w w' : World} {B : Nat} {F : Fp} {v : Value} {l : List Step} (h : RdSts w F v l) (hb : Below B w w') (hF : ∀ k, F k → k < w.heap.size → k < B) : RdSts w' F v l := by
  obtain ⟨A, c, h1, h2, h3, h4⟩ := h
  refine ⟨A, c, h1, h2, h3, fun j s hs => ?_⟩
  obtain ⟨b, off, e0, e1, e2, c0, c1, c2, c3, c4, c5, e3, u, c6, r⟩ := h4 j s hs
  have hB := hF b e1 e2
  exact ⟨b, off, e0, e1, Nat.lt_of_lt_of_le e2 hb.size, (hb.cell hB).trans c0, (hb.cell hB).trans c1, (hb.cell hB).trans c2, (hb.cell hB).trans c3, (hb.cell hB).trans c4, (hb.cell hB).trans c5, e3, u, (hb.cell hB).trans c6, okB.below r hb hF⟩
theorem RdSts.lt {w : World} {F : Fp} {v : Value} {l : List Step} (h : RdSts w F v l) : RdSts w (fun k => F k ∧ k < w.heap.size) v l := by
  obtain ⟨A, c, h1, h2, h3, h4⟩ := h
  refine ⟨A, c, h1, h2, h3, fun j s hs => ?_⟩
  obtain ⟨b, off, e0, e1, e2, c0, c1, c2, c3, c4, c5, e3, u, c6, r⟩ := h4 j s hs
  exact ⟨b, off, e0, ⟨e1, e2⟩, e2, c0, c1, c2, c3, c4, c5, e3, u, c6, okB.lt r⟩
theorem M.RdA.keepF {w w' : World} {F : Fp} {v : Value} {a : Arr} (h : RdA w F v a) (hk : ∀ k, F k → k < w.heap.size → w'.heap[k]? = w.heap[k]?) : RdA w' F v a := by
  obtain ⟨dv, iv, rfl, h1, h2⟩ := h
  exact ⟨dv, iv, rfl, okBBB.keep h1 hk, okIs.keep h2 hk⟩
theorem stepR_good {a : Arr} (hs : Shape a.disks) (hn : a.ints = []) (s : Step) : Shape (stepR a s).1.disks ∧ (stepR a s).1.ints = [] := by
  unfold stepR stepK
  split
  · by_cases he : (planA a.disks s.deed).2 = 0
    · rw [doA_ok he]; exact ⟨writeR_shape hs (intOk_plan hs he) 6, rfl⟩
    · rw [doA_bad he]; exact ⟨hs, hn⟩
  · split
    · split
      · exact ⟨hs, hn⟩
      · rename_i he
        have he' : (planA a.disks s.deed).2 = 0 := by simpa using he
        have hi := intOk_plan hs he'
        rcases mount_half (.inr rfl) hs hn (i := (planA a.disks s.deed).1) hi.2.1 hi.2.2.2 s.n with e | e
        · simp only [e]; exact ⟨hs, hn⟩
        · simp only [e]; exact ⟨putTo_shape hs _ hi.2.2.2 4, rfl⟩
    · split
      · split
        · exact ⟨hs, hn⟩
        · refine ⟨rot_shape hs _ _ _, ?_⟩
          rcases rot_cases a (s.n / 3) (s.n % 3) s.m with e | ⟨_, _, _, _, _, _, _, _, _, e⟩ <;> rw [e] <;> exact hn
      · split
        · refine ⟨gone_shape' hs _, ?_⟩
          rcases gone_cases a s.n with e | ⟨_, _, _, e⟩ <;> rw [e] <;> exact hn
        · split
          · refine ⟨mend_shape hs _, ?_⟩
            unfold mendA
            split
            · exact hn
            · simp only []
              split
              · exact hn
              · exact hn
          · exact ⟨hs, hn⟩
theorem playTo_next {l : List Step} {k : Nat} {s : Step} (h : l[k]? = some s) : playTo l (k + 1) = (stepR (playTo l k) s).1 := by
  have hl := (List.getElem?_eq_some_iff.1 h).1
  have he := (List.getElem?_eq_some_iff.1 h).2
  unfold playTo
  rw [List.take_succ_eq_append_getElem hl, List.foldl_append, he]
  rfl
theorem playTo_good (l : List Step) (k : Nat) : Shape (playTo l k).disks ∧ (playTo l k).ints = [] := by
  induction k with
  | zero => exact ⟨good_new.1.shape, rfl⟩
  | succ k ih =>
    by_cases h : k < l.length
    · rw [playTo_next (List.getElem?_eq_getElem h)]
      exact stepR_good ih.1 ih.2 _
    · have : playTo l (k + 1) = playTo l k := by unfold playTo; rw [List.take_of_length_le (by omega), List.take_of_length_le (by omega)]
      rw [this]; exact ih
theorem slE : M.SlTy Try.prog 42 28 8 := sl_of Try.underlying42 (z := .int .i64 0) (by kernel_rfl) rfl (by decide)
theorem playTo_all {l : List Step} {k : Nat} (h : k = l.length ∧ k ≤ 100 ∨ k = 100) : playTo l k = playA l := by
  unfold playA playTo
  rcases h with ⟨h1, h2⟩ | h
  · rw [List.take_of_length_le (by omega), List.take_of_length_le (by omega)]
  · rw [h]
set_option maxRecDepth 100000 in
set_option maxHeartbeats 1600000 in
theorem ref_Play (l : List Step) (v : Value) (F : Fp) (w : World) (h : RdSts w F v l) :
    Calls Try.prog 26 #[v] w fun e w' => ∃ v' u, e = .returned (.tuple #[v', u]) ∧ RdA w' (fun k => w.heap.size ≤ k) v' (playA l) ∧ u.oneCell' = true ∧ Below w.heap.size w w' := by
  obtain ⟨A, c, rfl, hlc, hm, hl⟩ := id h.lt
  unfold maxLen at hm
  have h0 := boxAt_new w 41 [.slice none 0 0, .slice none 0 0]
  have hb0 := below_alloc w (.cells #[.slice none 0 0, .slice none 0 0] 41)
  have hsz0 := alloc_size w (.cells #[.slice none 0 0, .slice none 0 0] 41)
  change BoxAt (w.alloc (.cells #[.slice none 0 0, .slice none 0 0] 41)) _ _ _ at h0
  have HL := Lib.hid h.lt
  clear hl h
  go_enter Try.func26, Try.ntmps26
  go_wp2_with fail
  generalize w.alloc (.cells #[.slice none 0 0, .slice none 0 0] 41) = w1 at *
  refine (ref_New _).mono ?_
  rintro e w2 ⟨v2, rfl, hr2, hb2⟩
  obtain ⟨b0, o0, c0, Ai, ci, rfl, _, _, _, _⟩ := RdA_open hr2 good_new.1.shape
  have hal := below_alloc w2 (.cells #[.slice (some ⟨b0, o0, none⟩) 4 c0, .slice Ai newA.ints.length ci] 41)
  have hA := boxAt_new w2 41 [.slice (some ⟨b0, o0, none⟩) 4 c0, .slice Ai newA.ints.length ci]
  have hr3 := hr2.lt.grow hal
  have hb3 := hb2.trans (hal.mono hb2.size)
  have hB := hb0.trans (hb3.mono hb0.size)
  have hZ := h0.grow hb3
  obtain ⟨w3, hw3⟩ : ∃ x, w2.alloc (.cells #[.slice (some ⟨b0, o0, none⟩) 4 c0, .slice Ai newA.ints.length ci] 41) = x := ⟨_, rfl⟩
  change BoxAt (w2.alloc (.cells #[.slice (some ⟨b0, o0, none⟩) 4 c0, .slice Ai newA.ints.length ci] 41)) _ _ _ at hA
  rw [hw3] at hA hr3 hB hZ
  obtain ⟨BA, hBA⟩ : ∃ x, w2.heap.size = x := ⟨_, rfl⟩
  rw [hBA] at hA hr3
  have hge : w.heap.size + 1 ≤ BA := by rw [← hBA, ← hsz0]; exact hb2.size
  have HH := Lib.hid (And.intro hA (And.intro hr3 (And.intro hB (And.intro hZ hge))))
  clear hal hA hr3 hb3 hB hZ hge hr2 hb2 h0 hb0
  go_wp2_with fail
  go_loopw [5, 13] (fun u i wr => ∃ (k : Nat) (es : List Int), k ≤ l.length ∧ k ≤ 100 ∧ i = .int .i64 k ∧ (∃ dv iv, BoxAt wr BA 41 [dv, iv] ∧ RdA wr (fun q => w.heap.size + 1 ≤ q ∧ q ≠ BA ∧ some q ≠ u.ownBlock) (.agg #[dv, iv]) (playTo l k)) ∧ BoxAt wr w.heap.size 41 [.slice none 0 0, .slice none 0 0] ∧ Bld RI 28 wr (w.heap.size + 1) (fun _ => True) u es ∧ es.length = k ∧ (∀ q, u.ownBlock = some q → q ≠ BA) ∧ Below w.heap.size w wr) (fun _ i _ => l.length - (intOf i).toNat)
  case atStart => exact ⟨0, [], Nat.zero_le _, Nat.zero_le _, rfl, ⟨_, _, HH.out.1, HH.out.2.1.mono fun q hq => ⟨by omega, by omega, by simp [Value.ownBlock]⟩⟩, HH.out.2.2.2.1, Bld.nil_ _ _ _ _ _, rfl, fun q hq => by simp [Value.ownBlock] at hq, HH.out.2.2.1⟩
  case round =>
    obtain ⟨k, es, hk, hk1, rfl, ⟨dv, iv, hA, hR⟩, hZ, hE, hel, hne, hB⟩ := hrel
    obtain ⟨hsk, hik⟩ := playTo_good l k
    obtain ⟨b1, o1, c1, A1, c2, hag, _, _, hc11, hc12⟩ := RdA_open hR hsk
    injection hag with hag
    simp only [Array.mk.injEq, List.cons.injEq, and_true] at hag
    obtain ⟨rfl, rfl⟩ := hag
    rw [show (playTo l k).ints.length = 0 by rw [hik]; rfl] at hA hR
    by_cases hlt : k < l.length
    rotate_left
    · have hall := playTo_all (l := l) (k := k) (.inl ⟨by omega, hk1⟩)
      obtain ⟨x0, x1, x2, x3⟩ := hA.two
      obtain ⟨z0, z1, z2, z3⟩ := hZ.two
      have hRb := ret_box (F' := fun k => w.heap.size ≤ k) hZ hB (Nat.le_refl _) hR (fun k hk => by omega) fun k hk => by omega
      have h5 := hE.one'
      have HF := Lib.hid (And.intro hall (And.intro hRb h5))
      obtain ⟨A5, c5, rfl, _, _⟩ := (hE.toRd_ okI).shape
      clear hall hA hR hZ hE hB hRb h5
      go_wp2_with fail
      exact bodyPost_ret (v := .tuple #[.agg #[.slice (some ⟨b1, o1, none⟩) 4 c1, .slice A1 0 c2], .slice A5 es.length c5]) (by simp [results, Try.results26, go_sem, *]) rfl ⟨_, _, rfl, by rw [← HF.out.1]; exact HF.out.2.1.1, rfl, HF.out.2.1.2⟩
    obtain ⟨s, hs⟩ : ∃ s, l[k]? = some s := ⟨_, List.getElem?_eq_getElem hlt⟩
    obtain ⟨_, _, e1, _, _, hl⟩ := HL.out.below hB fun _ hk _ => hk.2
    injection e1 with e1 e2 e3
    subst e1; subst e3
    obtain ⟨b, off, rfl, hb, hb', g0, g1, g2, g3, g4, g5, hsn, ud, g6, hud⟩ := hl k s hs
    obtain ⟨Ad, cd, rfl, _, _⟩ := hud.shape
    have hbs := hb.2
    clear hl
    have hal := below_alloc wr (.cells #[.int .i64 s.kind, .int .i64 s.n, .int .i64 s.m, .int .i64 s.deed.kind, .int .i64 s.deed.n, .int .i64 s.deed.m, .slice Ad s.deed.data.length cd] 79)
    have hX := boxAt_new wr 79 [.int .i64 s.kind, .int .i64 s.n, .int .i64 s.m, .int .i64 s.deed.kind, .int .i64 s.deed.n, .int .i64 s.deed.m, .slice Ad s.deed.data.length cd]
    obtain ⟨wx, hwx⟩ : ∃ x, wr.alloc (.cells #[.int .i64 s.kind, .int .i64 s.n, .int .i64 s.m, .int .i64 s.deed.kind, .int .i64 s.deed.n, .int .i64 s.deed.m, .slice Ad s.deed.data.length cd] 79) = x := ⟨_, rfl⟩
    change BoxAt (wr.alloc (.cells #[.int .i64 s.kind, .int .i64 s.n, .int .i64 s.m, .int .i64 s.deed.kind, .int .i64 s.deed.n, .int .i64 s.deed.m, .slice Ad s.deed.data.length cd] 79)) _ _ _ at hX
    rw [hwx] at hal hX
    have hA2 := hA.grow hal
    have hR2 := hR.grow hal
    have hZ2 := hZ.grow hal
    have hB2 := hB.trans (hal.mono hB.size)
    have hE2 := hE.grow okI hal
    have hst : RdSt wx (fun k => k < w.heap.size) (.agg #[.int .i64 s.kind, .int .i64 s.n, .int .i64 s.m, .int .i64 s.deed.kind, .int .i64 s.deed.n, .int .i64 s.deed.m, .slice Ad s.deed.data.length cd]) s := ⟨_, rfl, hsn, okB.mono (okB.grow hud hal) fun k hk => hk.2⟩
    by_cases h100 : k = 100
    · have hall := playTo_all (l := l) (k := k) (.inr h100)
      obtain ⟨x0, x1, x2, x3⟩ := hA2.two
      obtain ⟨z0, z1, z2, z3⟩ := hZ2.two
      have hRb := ret_box (F' := fun k => w.heap.size ≤ k) hZ2 hB2 (Nat.le_refl _) hR2 (fun k hk => by omega) fun k hk => by omega
      have HF := Lib.hid (And.intro hall hRb)
      obtain ⟨A5, c5, rfl, _, _⟩ := (hE.toRd_ okI).shape
      clear hall hA hR hZ hE hB hRb hA2 hR2 hZ2 hE2 hB2 hX hst hud
      subst h100
      go_wp2_with fail
      exact bodyPost_ret (v := .tuple #[.agg #[.slice (some ⟨b1, o1, none⟩) 4 c1, .slice A1 0 c2], .slice A5 es.length c5]) (by simp [results, Try.results26, go_sem, *]) rfl ⟨_, _, rfl, by rw [← HF.out.1]; exact HF.out.2.1, rfl, HF.out.2.2⟩
    have hk99 : k < 100 := by omega
    have hne100 : ((k : Int) == 100) = false := by simp; omega
    obtain ⟨x0, x1, x2, x3⟩ := hA2.two
    obtain ⟨y0, y1, y2, y3, y4, y5, y6⟩ := hX.seven
    have H1 := Lib.hid (And.intro hA2 (And.intro hZ2 (And.intro hB2 hE2)))
    have HST := Lib.hid (And.intro hR2 hst)
    have HN := Lib.hid (playTo_next hs)
    have HSK := Lib.hid (And.intro hsk hik)
    have hszx := hB2.size
    have HELen := Lib.hid hel
    have HNE := Lib.hid hne
    clear hA hR hZ hE hB hA2 hR2 hZ2 hE2 hB2 hX hst hud hal hsk hik h100 hs hel hne
    go_wp2_with fail
    refine (ref_Step (playTo l k) s _ _ _ _ HST.out.1 HST.out.2 HSK.out.1 HSK.out.2).mono ?_
    rintro e w4 ⟨v4, rfl, hr4, hb4⟩
    rw [← HN.out] at hr4
    obtain ⟨hsh4, hi4⟩ := playTo_good l (k + 1)
    obtain ⟨b3, o3, c3, A3, c4, rfl, _, _, _, _⟩ := RdA_open hr4 hsh4
    rw [show (playTo l (k + 1)).ints.length = 0 by rw [hi4]; rfl] at hr4 ⊢
    generalize (stepR (playTo l k) s).2 = er at *
    have hal4 := below_alloc w4 (.cells #[.slice (some ⟨b3, o3, none⟩) 4 c3, .slice A3 0 c4] 41)
    have hY4 := boxAt_new w4 41 [.slice (some ⟨b3, o3, none⟩) 4 c3, .slice A3 0 c4]
    have hb5 := hb4.trans (hal4.mono hb4.size)
    have hA5 := H1.out.1.grow hb5
    have hZ5 := H1.out.2.1.grow hb5
    have hB5 := H1.out.2.2.1.trans (hb5.mono H1.out.2.2.1.size)
    have hE5 := H1.out.2.2.2.grow okI hb5
    have hr5 := hr4.grow hal4
    have hs4 := hb4.size
    have hBAx := H1.out.1.lt
    obtain ⟨w5, hw5⟩ : ∃ x, w4.alloc (.cells #[.slice (some ⟨b3, o3, none⟩) 4 c3, .slice A3 0 c4] 41) = x := ⟨_, rfl⟩
    change BoxAt (w4.alloc (.cells #[.slice (some ⟨b3, o3, none⟩) 4 c3, .slice A3 0 c4] 41)) _ _ _ at hY4
    rw [hw5] at hal4 hY4 hA5 hZ5 hB5 hE5 hr5
    obtain ⟨p0, p1, p2, p3⟩ := hY4.two
    obtain ⟨q0, q1, q2, q3⟩ := hA5.two
    have hge := HH.out.2.2.2.2
    have f1 : BoxAt (set2 w5 BA (.slice (some ⟨b3, o3, none⟩) 4 c3) (.slice A3 0 c4)) _ _ _ := hA5.put2
    have f2 : RdA (set2 w5 BA (.slice (some ⟨b3, o3, none⟩) 4 c3) (.slice A3 0 c4)) _ _ _ := hr5.set2 (b := BA) fun q hq => by omega
    have f3 : BoxAt (set2 w5 BA (.slice (some ⟨b3, o3, none⟩) 4 c3) (.slice A3 0 c4)) _ _ _ := hZ5.far2 (by omega)
    have f4 : Bld RI 28 (set2 w5 BA (.slice (some ⟨b3, o3, none⟩) 4 c3) (.slice A3 0 c4)) (w.heap.size + 1) (fun _ => False) u5 es := Bld.set2 okI (show Bld RI 28 w5 (w.heap.size + 1) (fun _ => False) u5 es from hE5) (fun q hq => HNE.out q hq) (fun _ hq => hq.elim)
    have f5 := hB5.trans (below_set2 (b := BA) (v0 := .slice (some ⟨b3, o3, none⟩) 4 c3) (v1 := .slice A3 0 c4) (by omega))
    obtain ⟨w6, hw6⟩ : ∃ x, set2 w5 BA (.slice (some ⟨b3, o3, none⟩) 4 c3) (.slice A3 0 c4) = x := ⟨_, rfl⟩
    rw [hw6] at f1 f2 f3 f4 f5
    change (w5.setCell ⟨BA, 0, none⟩ (.slice (some ⟨b3, o3, none⟩) 4 c3)).setCell ⟨BA, 1, none⟩ (.slice A3 0 c4) = w6 at hw6
    have H := Lib.hid (And.intro f1 (And.intro (f2.mono (F' := fun q => w.heap.size + 1 ≤ q ∧ q ≠ BA ∧ some q ≠ u5.ownBlock) fun q hq => hq.elim id fun h => ⟨by omega, by omega, fun e => by have := (H1.out.2.2.2.blk q e.symm).2; omega⟩) (And.intro f3 (And.intro f4 f5))))
    have hsz6 : w.heap.size + 1 ≤ w6.heap.size := by have := f1.lt; omega
    have HBA6 := Lib.hid f1.lt
    have HT := Lib.hid (show (es.length + 1) * 8 ≤ 140737488355328 by have := HELen.out; omega)
    clear f1 f2 f3 f4 f5 hal4 hY4 hb5 hA5 hZ5 hB5 hE5 hr5 hr4 hb4 hsh4 hi4 x0 x1 x2 x3 y0 y1 y2 y3 y4 y5 y6
    go_wp2_with (at_builtin; refine wpList_append_bld _ rfl _ _ 42 (by rfl) okI slE (w.heap.size + 1) (fun _ => True) u5 _ es [er] (by rfl) (by rfl) (Bld.alloc okI (show Bld RI 28 _ (w.heap.size + 1) (fun _ => True) u5 es from H.out.2.2.2.1) _) (src_one okI (show Bld RI 28 _ (w.heap.size + 1) (fun _ => True) u5 es from H.out.2.2.2.1) trivial rfl _ rfl) HT.out ?c2 ?c3)
    case c2 => rw [alloc_size]; omega
    case c3 =>
    intro v' w' r1 r2 r3 r4
    have hal6 := below_alloc w6 (.cells #[.int .i64 er] 28)
    have hbl : ∀ k, k < w6.heap.size → some k ≠ u5.ownBlock → w'.heap[k]? = w6.heap[k]? := fun k hk hne => (r3.block k (by rw [alloc_size]; omega) hne).trans (hal6.block k hk)
    have h6 := H.out.1
    have n1 : BoxAt w' BA 41 [.slice (some ⟨b3, o3, none⟩) 4 c3, .slice A3 0 c4] := (hbl BA HBA6.out fun e => HNE.out BA e.symm rfl).trans H.out.1
    have n2 : BoxAt w' w.heap.size 41 [.slice none 0 0, .slice none 0 0] := (hbl _ (by omega) fun e => by have := (H.out.2.2.2.1.blk _ e.symm).1; omega).trans H.out.2.2.1
    have n3 := (H.out.2.1.lt.keepF (w' := w') fun k hk hl => hbl k hl hk.1.2.2).mono (F' := fun q => w.heap.size + 1 ≤ q ∧ q ≠ BA ∧ some q ≠ v'.ownBlock) fun q hq => ⟨hq.1.1, hq.1.2.1, fun e => by
      rcases r4 with r4 | r4
      · exact hq.1.2.2 (e.trans r4)
      · rw [r4] at e
        injection e with e
        have := hq.2
        omega⟩
    have n4 : ∀ q, v'.ownBlock = some q → q ≠ BA := fun q hq e => by
      rcases r4 with r4 | r4
      · exact HNE.out q (r4 ▸ hq) e
      · rw [hq] at r4
        injection r4 with r4
        have := HBA6.out
        omega
    have n5 := (H.out.2.2.2.2.trans (hal6.mono (by omega))).trans (r2.mono (Nat.le_succ _))
    have HN2 := Lib.hid (And.intro n1 (And.intro n3 (And.intro n2 (And.intro r1 (And.intro n4 n5)))))
    clear n1 n2 n3 n4 n5 r1 r2 r3 r4 hbl h6 hal6
    go_wp2
    go_roundw
    case rel => exact ⟨k + 1, es ++ [er], by omega, by omega, by go_num, ⟨_, _, HN2.out.1, HN2.out.2.1⟩, HN2.out.2.2.1, HN2.out.2.2.2.1, by rw [List.length_append, HELen.out]; rfl, HN2.out.2.2.2.2.1, HN2.out.2.2.2.2.2⟩
    case measure => simp [intOf]; omega
end Go.Proofs.Ytlbnkoahkfhimaa

/- Merged: C9d C9e C9f C9g Open Open2 Open3. -/
import Derived.Test.YtoendmbgfbhidaaZf
import Derived.ProofKit
import Derived.OpenShut
import Derived.SizedLaws
import Derived.ChangeOld
import Derived.Deep.Slices
import Derived.Test.YtoendmbgfbhidaaZb
import Derived.Test.YtoendmbgfbhidaaZc
import Derived.Lib.SmallJoins
namespace Go.Proofs.Ytoendmbgfbhidaa
set_option linter.unusedVariables false
open Go Go.RowKit M
/-- A list of steps, seven cells each. -/
def RdSts (w : World) (F : Fp) (v : Value) (l : List Step) : Prop := ∃ A c, v = .slice A l.length c ∧ l.length ≤ c ∧ c ≤ maxLen ∧ ∀ (j : Nat) (s : Step), l[j]? = some s → ∃ b off, A = some ⟨b, off, none⟩ ∧ F b ∧ b < w.heap.size ∧ w.cell? ⟨b, off + j * 7, none⟩ = some (.int .i64 s.kind) ∧ w.cell? ⟨b, off + j * 7 + 1, none⟩ = some (.int .i64 s.n) ∧ w.cell? ⟨b, off + j * 7 + 2, none⟩ = some (.int .i64 s.m) ∧
  w.cell? ⟨b, off + j * 7 + 3, none⟩ = some (.int .i64 s.deed.kind) ∧ w.cell? ⟨b, off + j * 7 + 4, none⟩ = some (.int .i64 s.deed.n) ∧ w.cell? ⟨b, off + j * 7 + 5, none⟩ = some (.int .i64 s.deed.m) ∧ s.n ≤ 9223372036854775807 ∧ ∃ u, w.cell? ⟨b, off + j * 7 + 6, none⟩ = some u ∧ RdB w F u s.deed.data
theorem RdSts.below {w w' : World} {B : Nat} {F : Fp} {v : Value} {l : List Step} (h : RdSts w F v l) (hb : Below B w w') (hF : ∀ k, F k → k < w.heap.size → k < B) : RdSts w' F v l := by
  obtain ⟨A, c, h1, h2, h3, h4⟩ := h
  refine ⟨A, c, h1, h2, h3, fun j s hs => ?_⟩
  obtain ⟨b, off, e0, e1, e2, c0, c1, c2, c3, c4, c5, e3, u, c6, r⟩ := h4 j s hs
  have hB := hF b e1 e2
  exact ⟨b, off, e0, e1, Nat.lt_of_lt_of_le e2 hb.size, (hb.cell hB).trans c0, (hb.cell hB).trans c1, (hb.cell hB).trans c2, (hb.cell hB).trans c3, (hb.cell hB).trans c4, (hb.cell hB).trans c5, e3, u, (hb.cell hB).trans c6, okB.below r hb hF⟩
theorem RdSts.lt {w : World} {F : Fp} {v : Value} {l : List Step} (h : RdSts w F v l) : RdSts w (fun k => F k ∧ k < w.heap.size) v l := by
  obtain ⟨A, c, h1, h2, h3, h4⟩ := h
  refine ⟨A, c, h1, h2, h3, fun j s hs => ?_⟩
  obtain ⟨b, off, e0, e1, e2, c0, c1, c2, c3, c4, c5, e3, u, c6, r⟩ := h4 j s hs
  exact ⟨b, off, e0, ⟨e1, e2⟩, e2, c0, c1, c2, c3, c4, c5, e3, u, c6, okB.lt r⟩
theorem M.RdA.keepF {w w' : World} {F : Fp} {v : Value} {a : Arr} (h : RdA w F v a) (hk : ∀ k, F k → k < w.heap.size → w'.heap[k]? = w.heap[k]?) : RdA w' F v a := by
  obtain ⟨dv, iv, rfl, h1, h2⟩ := h
  exact ⟨dv, iv, rfl, okBBB.keep h1 hk, okIs.keep h2 hk⟩
theorem stepR_good {a : Arr} (hs : Shape a.disks) (hn : a.ints = []) (s : Step) : Shape (stepR a s).1.disks ∧ (stepR a s).1.ints = [] := by
  unfold stepR stepK
  split
  · by_cases he : (planA a.disks s.deed).2 = 0
    · rw [doA_ok he]; exact ⟨writeR_shape hs (intOk_plan hs he) 6, rfl⟩
    · rw [doA_bad he]; exact ⟨hs, hn⟩
  · split
    · split
      · exact ⟨hs, hn⟩
      · rename_i he
        have he' : (planA a.disks s.deed).2 = 0 := by simpa using he
        have hi := intOk_plan hs he'
        rcases mount_half (.inr rfl) hs hn (i := (planA a.disks s.deed).1) hi.2.1 hi.2.2.2 s.n with e | e
        · simp only [e]; exact ⟨hs, hn⟩
        · simp only [e]; exact ⟨putTo_shape hs _ hi.2.2.2 4, rfl⟩
    · split
      · split
        · exact ⟨hs, hn⟩
        · refine ⟨rot_shape hs _ _ _, ?_⟩
          rcases rot_cases a (s.n / 3) (s.n % 3) s.m with e | ⟨_, _, _, _, _, _, _, _, _, e⟩ <;> rw [e] <;> exact hn
      · split
        · refine ⟨gone_shape' hs _, ?_⟩
          rcases gone_cases a s.n with e | ⟨_, _, _, e⟩ <;> rw [e] <;> exact hn
        · split
          · refine ⟨mend_shape hs _, ?_⟩
            unfold mendA
            split
            · exact hn
            · simp only []
              split
              · exact hn
              · exact hn
          · exact ⟨hs, hn⟩
theorem playTo_next {l : List Step} {k : Nat} {s : Step} (h : l[k]? = some s) : playTo l (k + 1) = (stepR (playTo l k) s).1 := by
  have hl := (List.getElem?_eq_some_iff.1 h).1
  have he := (List.getElem?_eq_some_iff.1 h).2
  unfold playTo
  rw [List.take_succ_eq_append_getElem hl, List.foldl_append, he]
  rfl
theorem playTo_good (l : List Step) (k : Nat) : Shape (playTo l k).disks ∧ (playTo l k).ints = [] := by
  induction k with
  | zero => exact ⟨good_new.1.shape, rfl⟩
  | succ k ih =>
    by_cases h : k < l.length
    · rw [playTo_next (List.getElem?_eq_getElem h)]
      exact stepR_good ih.1 ih.2 _
    · have : playTo l (k + 1) = playTo l k := by unfold playTo; rw [List.take_of_length_le (by omega), List.take_of_length_le (by omega)]
      rw [this]; exact ih
theorem slE : M.SlTy Try.prog 32 35 8 := sl_of Try.underlying32 (z := .int .i64 0) (by kernel_rfl) rfl (by decide)
theorem playTo_all {l : List Step} {k : Nat} (h : k = l.length ∧ k ≤ 100 ∨ k = 100) : playTo l k = playA l := by
  unfold playA playTo
  rcases h with ⟨h1, h2⟩ | h
  · rw [List.take_of_length_le (by omega), List.take_of_length_le (by omega)]
  · rw [h]
set_option maxRecDepth 100000 in
set_option maxHeartbeats 1600000 in
theorem ref_Play (l : List Step) (v : Value) (F : Fp) (w : World) (h : RdSts w F v l) :
    Calls Try.prog 17 #[v] w fun e w' => ∃ v' u, e = .returned (.tuple #[v', u]) ∧ RdA w' (fun k => w.heap.size ≤ k) v' (playA l) ∧ u.oneCell' = true ∧ Below w.heap.size w w' := by
  obtain ⟨A, c, rfl, hlc, hm, hl⟩ := id h.lt
  unfold maxLen at hm
  have h0 := boxAt_new w 30 [.slice none 0 0, .slice none 0 0]
  have hb0 := below_alloc w (.cells #[.slice none 0 0, .slice none 0 0] 30)
  have hsz0 := alloc_size w (.cells #[.slice none 0 0, .slice none 0 0] 30)
  change BoxAt (w.alloc (.cells #[.slice none 0 0, .slice none 0 0] 30)) _ _ _ at h0
  have HL := Lib.hid h.lt
  clear hl h
  go_enter Try.func17, Try.ntmps17
  go_wp2_with fail
  generalize w.alloc (.cells #[.slice none 0 0, .slice none 0 0] 30) = w1 at *
  refine (ref_New _).mono ?_
  rintro e w2 ⟨v2, rfl, hr2, hb2⟩
  obtain ⟨b0, o0, c0, Ai, ci, rfl, _, _, _, _⟩ := RdA_open hr2 good_new.1.shape
  have hal := below_alloc w2 (.cells #[.slice (some ⟨b0, o0, none⟩) 4 c0, .slice Ai newA.ints.length ci] 30)
  have hA := boxAt_new w2 30 [.slice (some ⟨b0, o0, none⟩) 4 c0, .slice Ai newA.ints.length ci]
  have hr3 := hr2.lt.grow hal
  have hb3 := hb2.trans (hal.mono hb2.size)
  have hB := hb0.trans (hb3.mono hb0.size)
  have hZ := h0.grow hb3
  obtain ⟨w3, hw3⟩ : ∃ x, w2.alloc (.cells #[.slice (some ⟨b0, o0, none⟩) 4 c0, .slice Ai newA.ints.length ci] 30) = x := ⟨_, rfl⟩
  change BoxAt (w2.alloc (.cells #[.slice (some ⟨b0, o0, none⟩) 4 c0, .slice Ai newA.ints.length ci] 30)) _ _ _ at hA
  rw [hw3] at hA hr3 hB hZ
  obtain ⟨BA, hBA⟩ : ∃ x, w2.heap.size = x := ⟨_, rfl⟩
  rw [hBA] at hA hr3
  have hge : w.heap.size + 1 ≤ BA := by rw [← hBA, ← hsz0]; exact hb2.size
  have HH := Lib.hid (And.intro hA (And.intro hr3 (And.intro hB (And.intro hZ hge))))
  clear hal hA hr3 hb3 hB hZ hge hr2 hb2 h0 hb0
  go_wp2_with fail
  go_loopw [5, 13] (fun u i wr => ∃ (k : Nat) (es : List Int), k ≤ l.length ∧ k ≤ 100 ∧ i = .int .i64 k ∧ (∃ dv iv, BoxAt wr BA 30 [dv, iv] ∧ RdA wr (fun q => w.heap.size + 1 ≤ q ∧ q ≠ BA ∧ some q ≠ u.ownBlock) (.agg #[dv, iv]) (playTo l k)) ∧ BoxAt wr w.heap.size 30 [.slice none 0 0, .slice none 0 0] ∧ Bld RI 35 wr (w.heap.size + 1) (fun _ => True) u es ∧ es.length = k ∧ (∀ q, u.ownBlock = some q → q ≠ BA) ∧ Below w.heap.size w wr) (fun _ i _ => l.length - (intOf i).toNat)
  case atStart => exact ⟨0, [], Nat.zero_le _, Nat.zero_le _, rfl, ⟨_, _, HH.out.1, HH.out.2.1.mono fun q hq => ⟨by omega, by omega, by simp [Value.ownBlock]⟩⟩, HH.out.2.2.2.1, Bld.nil_ _ _ _ _ _, rfl, fun q hq => by simp [Value.ownBlock] at hq, HH.out.2.2.1⟩
  case round =>
    obtain ⟨k, es, hk, hk1, rfl, ⟨dv, iv, hA, hR⟩, hZ, hE, hel, hne, hB⟩ := hrel
    obtain ⟨hsk, hik⟩ := playTo_good l k
    obtain ⟨b1, o1, c1, A1, c2, hag, _, _, hc11, hc12⟩ := RdA_open hR hsk
    injection hag with hag
    simp only [Array.mk.injEq, List.cons.injEq, and_true] at hag
    obtain ⟨rfl, rfl⟩ := hag
    rw [show (playTo l k).ints.length = 0 by rw [hik]; rfl] at hA hR
    by_cases hlt : k < l.length
    rotate_left
    · have hall := playTo_all (l := l) (k := k) (.inl ⟨by omega, hk1⟩)
      obtain ⟨x0, x1, x2, x3⟩ := hA.two
      obtain ⟨z0, z1, z2, z3⟩ := hZ.two
      have hRb := ret_box (F' := fun k => w.heap.size ≤ k) hZ hB (Nat.le_refl _) hR (fun k hk => by omega) fun k hk => by omega
      have h5 := hE.one'
      have HF := Lib.hid (And.intro hall (And.intro hRb h5))
      obtain ⟨A5, c5, rfl, _, _⟩ := (hE.toRd_ okI).shape
      clear hall hA hR hZ hE hB hRb h5
      go_wp2_with fail
      exact bodyPost_ret (v := .tuple #[.agg #[.slice (some ⟨b1, o1, none⟩) 4 c1, .slice A1 0 c2], .slice A5 es.length c5]) (by simp [results, Try.results17, go_sem, *]) rfl ⟨_, _, rfl, by rw [← HF.out.1]; exact HF.out.2.1.1, rfl, HF.out.2.1.2⟩
    obtain ⟨s, hs⟩ : ∃ s, l[k]? = some s := ⟨_, List.getElem?_eq_getElem hlt⟩
    obtain ⟨_, _, e1, _, _, hl⟩ := HL.out.below hB fun _ hk _ => hk.2
    injection e1 with e1 e2 e3
    subst e1; subst e3
    obtain ⟨b, off, rfl, hb, hb', g0, g1, g2, g3, g4, g5, hsn, ud, g6, hud⟩ := hl k s hs
    obtain ⟨Ad, cd, rfl, _, _⟩ := hud.shape
    have hbs := hb.2
    clear hl
    have hal := below_alloc wr (.cells #[.int .i64 s.kind, .int .i64 s.n, .int .i64 s.m, .int .i64 s.deed.kind, .int .i64 s.deed.n, .int .i64 s.deed.m, .slice Ad s.deed.data.length cd] 68)
    have hX := boxAt_new wr 68 [.int .i64 s.kind, .int .i64 s.n, .int .i64 s.m, .int .i64 s.deed.kind, .int .i64 s.deed.n, .int .i64 s.deed.m, .slice Ad s.deed.data.length cd]
    obtain ⟨wx, hwx⟩ : ∃ x, wr.alloc (.cells #[.int .i64 s.kind, .int .i64 s.n, .int .i64 s.m, .int .i64 s.deed.kind, .int .i64 s.deed.n, .int .i64 s.deed.m, .slice Ad s.deed.data.length cd] 68) = x := ⟨_, rfl⟩
    change BoxAt (wr.alloc (.cells #[.int .i64 s.kind, .int .i64 s.n, .int .i64 s.m, .int .i64 s.deed.kind, .int .i64 s.deed.n, .int .i64 s.deed.m, .slice Ad s.deed.data.length cd] 68)) _ _ _ at hX
    rw [hwx] at hal hX
    have hA2 := hA.grow hal
    have hR2 := hR.grow hal
    have hZ2 := hZ.grow hal
    have hB2 := hB.trans (hal.mono hB.size)
    have hE2 := hE.grow okI hal
    have hst : RdSt wx (fun k => k < w.heap.size) (.agg #[.int .i64 s.kind, .int .i64 s.n, .int .i64 s.m, .int .i64 s.deed.kind, .int .i64 s.deed.n, .int .i64 s.deed.m, .slice Ad s.deed.data.length cd]) s := ⟨_, rfl, hsn, okB.mono (okB.grow hud hal) fun k hk => hk.2⟩
    by_cases h100 : k = 100
    · have hall := playTo_all (l := l) (k := k) (.inr h100)
      obtain ⟨x0, x1, x2, x3⟩ := hA2.two
      obtain ⟨z0, z1, z2, z3⟩ := hZ2.two
      have hRb := ret_box (F' := fun k => w.heap.size ≤ k) hZ2 hB2 (Nat.le_refl _) hR2 (fun k hk => by omega) fun k hk => by omega
      have HF := Lib.hid (And.intro hall hRb)
      obtain ⟨A5, c5, rfl, _, _⟩ := (hE.toRd_ okI).shape
      clear hall hA hR hZ hE hB hRb hA2 hR2 hZ2 hE2 hB2 hX hst hud
      subst h100
      go_wp2_with fail
      exact bodyPost_ret (v := .tuple #[.agg #[.slice (some ⟨b1, o1, none⟩) 4 c1, .slice A1 0 c2], .slice A5 es.length c5]) (by simp [results, Try.results17, go_sem, *]) rfl ⟨_, _, rfl, by rw [← HF.out.1]; exact HF.out.2.1, rfl, HF.out.2.2⟩
    have hk99 : k < 100 := by omega
    have hne100 : ((k : Int) == 100) = false := by simp; omega
    obtain ⟨x0, x1, x2, x3⟩ := hA2.two
    obtain ⟨y0, y1, y2, y3, y4, y5, y6⟩ := hX.seven
    have H1 := Lib.hid (And.intro hA2 (And.intro hZ2 (And.intro hB2 hE2)))
    have HST := Lib.hid (And.intro hR2 hst)
    have HN := Lib.hid (playTo_next hs)
    have HSK := Lib.hid (And.intro hsk hik)
    have hszx := hB2.size
    have HELen := Lib.hid hel
    have HNE := Lib.hid hne
    clear hA hR hZ hE hB hA2 hR2 hZ2 hE2 hB2 hX hst hud hal hsk hik h100 hs hel hne
    go_wp2_with fail
    refine (ref_Step (playTo l k) s _ _ _ _ HST.out.1 HST.out.2 HSK.out.1 HSK.out.2).mono ?_
    rintro e w4 ⟨v4, rfl, hr4, hb4⟩
    rw [← HN.out] at hr4
    obtain ⟨hsh4, hi4⟩ := playTo_good l (k + 1)
    obtain ⟨b3, o3, c3, A3, c4, rfl, _, _, _, _⟩ := RdA_open hr4 hsh4
    rw [show (playTo l (k + 1)).ints.length = 0 by rw [hi4]; rfl] at hr4 ⊢
    generalize (stepR (playTo l k) s).2 = er at *
    have hal4 := below_alloc w4 (.cells #[.slice (some ⟨b3, o3, none⟩) 4 c3, .slice A3 0 c4] 30)
    have hY4 := boxAt_new w4 30 [.slice (some ⟨b3, o3, none⟩) 4 c3, .slice A3 0 c4]
    have hb5 := hb4.trans (hal4.mono hb4.size)
    have hA5 := H1.out.1.grow hb5
    have hZ5 := H1.out.2.1.grow hb5
    have hB5 := H1.out.2.2.1.trans (hb5.mono H1.out.2.2.1.size)
    have hE5 := H1.out.2.2.2.grow okI hb5
    have hr5 := hr4.grow hal4
    have hs4 := hb4.size
    have hBAx := H1.out.1.lt
    obtain ⟨w5, hw5⟩ : ∃ x, w4.alloc (.cells #[.slice (some ⟨b3, o3, none⟩) 4 c3, .slice A3 0 c4] 30) = x := ⟨_, rfl⟩
    change BoxAt (w4.alloc (.cells #[.slice (some ⟨b3, o3, none⟩) 4 c3, .slice A3 0 c4] 30)) _ _ _ at hY4
    rw [hw5] at hal4 hY4 hA5 hZ5 hB5 hE5 hr5
    obtain ⟨p0, p1, p2, p3⟩ := hY4.two
    obtain ⟨q0, q1, q2, q3⟩ := hA5.two
    have hge := HH.out.2.2.2.2
    have f1 : BoxAt (set2 w5 BA (.slice (some ⟨b3, o3, none⟩) 4 c3) (.slice A3 0 c4)) _ _ _ := hA5.put2
    have f2 : RdA (set2 w5 BA (.slice (some ⟨b3, o3, none⟩) 4 c3) (.slice A3 0 c4)) _ _ _ := hr5.set2 (b := BA) fun q hq => by omega
    have f3 : BoxAt (set2 w5 BA (.slice (some ⟨b3, o3, none⟩) 4 c3) (.slice A3 0 c4)) _ _ _ := hZ5.far2 (by omega)
    have f4 : Bld RI 35 (set2 w5 BA (.slice (some ⟨b3, o3, none⟩) 4 c3) (.slice A3 0 c4)) (w.heap.size + 1) (fun _ => False) u5 es := Bld.set2 okI (show Bld RI 35 w5 (w.heap.size + 1) (fun _ => False) u5 es from hE5) (fun q hq => HNE.out q hq) (fun _ hq => hq.elim)
    have f5 := hB5.trans (below_set2 (b := BA) (v0 := .slice (some ⟨b3, o3, none⟩) 4 c3) (v1 := .slice A3 0 c4) (by omega))
    obtain ⟨w6, hw6⟩ : ∃ x, set2 w5 BA (.slice (some ⟨b3, o3, none⟩) 4 c3) (.slice A3 0 c4) = x := ⟨_, rfl⟩
    rw [hw6] at f1 f2 f3 f4 f5
    change (w5.setCell ⟨BA, 0, none⟩ (.slice (some ⟨b3, o3, none⟩) 4 c3)).setCell ⟨BA, 1, none⟩ (.slice A3 0 c4) = w6 at hw6
    have H := Lib.hid (And.intro f1 (And.intro (f2.mono (F' := fun q => w.heap.size + 1 ≤ q ∧ q ≠ BA ∧ some q ≠ u5.ownBlock) fun q hq => hq.elim id fun h => ⟨by omega, by omega, fun e => by have := (H1.out.2.2.2.blk q e.symm).2; omega⟩) (And.intro f3 (And.intro f4 f5))))
    have hsz6 : w.heap.size + 1 ≤ w6.heap.size := by have := f1.lt; omega
    have HBA6 := Lib.hid f1.lt
    have HT := Lib.hid (show (es.length + 1) * 8 ≤ 140737488355328 by have := HELen.out; omega)
    clear f1 f2 f3 f4 f5 hal4 hY4 hb5 hA5 hZ5 hB5 hE5 hr5 hr4 hb4 hsh4 hi4 x0 x1 x2 x3 y0 y1 y2 y3 y4 y5 y6
    go_wp2_with (at_builtin; refine wpList_append_bld _ rfl _ _ 32 (by rfl) okI slE (w.heap.size + 1) (fun _ => True) u5 _ es [er] (by rfl) (by rfl) (Bld.alloc okI (show Bld RI 35 _ (w.heap.size + 1) (fun _ => True) u5 es from H.out.2.2.2.1) _) (src_one okI (show Bld RI 35 _ (w.heap.size + 1) (fun _ => True) u5 es from H.out.2.2.2.1) trivial rfl _ rfl) HT.out ?c2 ?c3)
    case c2 => rw [alloc_size]; omega
    case c3 =>
    intro v' w' r1 r2 r3 r4
    have hal6 := below_alloc w6 (.cells #[.int .i64 er] 35)
    have hbl : ∀ k, k < w6.heap.size → some k ≠ u5.ownBlock → w'.heap[k]? = w6.heap[k]? := fun k hk hne => (r3.block k (by rw [alloc_size]; omega) hne).trans (hal6.block k hk)
    have h6 := H.out.1
    have n1 : BoxAt w' BA 30 [.slice (some ⟨b3, o3, none⟩) 4 c3, .slice A3 0 c4] := (hbl BA HBA6.out fun e => HNE.out BA e.symm rfl).trans H.out.1
    have n2 : BoxAt w' w.heap.size 30 [.slice none 0 0, .slice none 0 0] := (hbl _ (by omega) fun e => by have := (H.out.2.2.2.1.blk _ e.symm).1; omega).trans H.out.2.2.1
    have n3 := (H.out.2.1.lt.keepF (w' := w') fun k hk hl => hbl k hl hk.1.2.2).mono (F' := fun q => w.heap.size + 1 ≤ q ∧ q ≠ BA ∧ some q ≠ v'.ownBlock) fun q hq => ⟨hq.1.1, hq.1.2.1, fun e => by
      rcases r4 with r4 | r4
      · exact hq.1.2.2 (e.trans r4)
      · rw [r4] at e
        injection e with e
        have := hq.2
        omega⟩
    have n4 : ∀ q, v'.ownBlock = some q → q ≠ BA := fun q hq e => by
      rcases r4 with r4 | r4
      · exact HNE.out q (r4 ▸ hq) e
      · rw [hq] at r4
        injection r4 with r4
        have := HBA6.out
        omega
    have n5 := (H.out.2.2.2.2.trans (hal6.mono (by omega))).trans (r2.mono (Nat.le_succ _))
    have HN2 := Lib.hid (And.intro n1 (And.intro n3 (And.intro n2 (And.intro r1 (And.intro n4 n5)))))
    clear n1 n2 n3 n4 n5 r1 r2 r3 r4 hbl h6 hal6
    go_wp2
    go_roundw
    case rel => exact ⟨k + 1, es ++ [er], by omega, by omega, by go_num, ⟨_, _, HN2.out.1, HN2.out.2.1⟩, HN2.out.2.2.1, HN2.out.2.2.2.1, by rw [List.length_append, HELen.out]; rfl, HN2.out.2.2.2.2.1, HN2.out.2.2.2.2.2⟩
    case measure => simp [intOf]; omega
end Go.Proofs.Ytoendmbgfbhidaa

namespace Go.Proofs.Ytoendmbgfbhidaa
set_option linter.unusedVariables false
open Go Go.RowKit M
theorem boxes2 (w : World) (a b : List Value) (T T' : TypeId) : ∃ w1, ((w.alloc (.cells a.toArray T)).alloc (.cells b.toArray T')) = w1 ∧ BoxAt w1 w.heap.size T a ∧ BoxAt w1 (w.heap.size + 1) T' b ∧ Below w.heap.size w w1 ∧ w1.heap.size = w.heap.size + 2 := by
  have h0 := boxAt_new w T a
  have h1 := below_alloc w (.cells a.toArray T)
  have h2 := boxAt_new (w.alloc (.cells a.toArray T)) T' b
  have h3 := below_alloc (w.alloc (.cells a.toArray T)) (.cells b.toArray T')
  rw [alloc_size] at h2
  exact ⟨_, rfl, h0.grow h3, h2, h1.trans (h3.mono h1.size), by rw [alloc_size, alloc_size]⟩
theorem M.BoxAt.seven_ {w : World} {b : Nat} {T : TypeId} {a0 a1 a2 a3 a4 a5 a6 : Value} (h : BoxAt w b T [a0, a1, a2, a3, a4, a5, a6]) : w.cell? ⟨b, 0, none⟩ = some a0 ∧ w.cell? ⟨b, 1, none⟩ = some a1 ∧ w.cell? ⟨b, 2, none⟩ = some a2 ∧ w.cell? ⟨b, 3, none⟩ = some a3 ∧ w.cell? ⟨b, 4, none⟩ = some a4 ∧ w.cell? ⟨b, 5, none⟩ = some a5 ∧ w.cell? ⟨b, 6, none⟩ = some a6 ∧ True :=
  ⟨h.cell 0, h.cell 1, h.cell 2, h.cell 3, h.cell 4, h.cell 5, h.cell 6, trivial⟩
def Kt (r : Int) : Know := fun _ v => ∃ u, v = .tuple #[u, .int .i64 r]
theorem mKt (r : Int) : Mono (Kt r) := fun _ _ _ _ h => h
theorem quos (k d t : Nat) (hk : k < 12) (hd : k / 3 = d) (ht : k % 3 = t) : wrap64 ((k : Int).tdiv 3) = (d : Int) ∧ ((k : Int) / 3) = (d : Int) ∧ ((k : Int).tmod 3) = (t : Int) ∧ IntKind.i64.wrap (d : Int) = (d : Int) ∧ IntKind.i64.wrap (t : Int) = (t : Int) := by
  have h1 : ((k : Int) / 3) = (d : Int) := by omega
  have h2 : ((k : Int) % 3) = (t : Int) := by omega
  refine ⟨?_, h1, ?_, wrap_nat (by omega), wrap_nat (by omega)⟩
  · rw [quo3 (by omega) (by omega), h1]
  · rw [Int.tmod_eq_emod_of_nonneg (by omega), h2]
theorem again_no {a : Arr} {s : Step} (h : s.kind ≠ 3 ∨ s.n < 0 ∨ 11 < s.n) : againA a s = false := by
  unfold againA
  rcases h with h | h | h
  · simp [h]
  · have : ¬ 0 ≤ s.n := by omega
    simp [this]
  · have : ¬ s.n ≤ 11 := by omega
    simp [this]
theorem again_yes {a : Arr} {s : Step} {k : Nat} (h1 : s.kind = 3) (h2 : s.n = k) (h3 : k < 12) : againA a s = !((readC (cellAt a.disks (k / 3) (k % 3)) (k / 3 : Nat) (k % 3 : Nat)).2 == 0) := by
  unfold againA
  rw [h2]
  have e1 : (k : Int) ≤ 11 := by omega
  have e2 : (0 : Int) ≤ (k : Int) := by omega
  simp only [h1, e1, e2, decide_true, beq_self_eq_true, Bool.true_and, Int.toNat_natCast]
  rfl
set_option maxRecDepth 100000 in
set_option maxHeartbeats 1600000 in
theorem ref_Again (a : Arr) (s : Step) (v vs : Value) (F : Fp) {F2 : Fp} (w : World) (h : RdA w F v a) (hs : RdSt w F2 vs s) (hsh : Shape a.disks) :
    Calls Try.prog 47 #[v, vs] w fun e w' => e = .returned (.bool (againA a s)) ∧ Below w.heap.size w w' := by
  obtain ⟨b0, o0, c0, Ai, ci, rfl, hD, hI, hc0, hc1⟩ := RdA_open h hsh
  obtain ⟨dv, rfl, hsn, hdv⟩ := hs
  obtain ⟨Ad, cd, rfl, _, _⟩ := hdv.shape
  obtain ⟨w1, hW, hA, hX, hB, hsz⟩ := boxes2 w [.slice (some ⟨b0, o0, none⟩) 4 c0, .slice Ai a.ints.length ci] [.int .i64 s.kind, .int .i64 s.n, .int .i64 s.m, .int .i64 s.deed.kind, .int .i64 s.deed.n, .int .i64 s.deed.m, .slice Ad s.deed.data.length cd] 30 68
  change ((w.alloc (.cells #[.slice (some ⟨b0, o0, none⟩) 4 c0, .slice Ai a.ints.length ci] 30)).alloc (.cells #[.int .i64 s.kind, .int .i64 s.n, .int .i64 s.m, .int .i64 s.deed.kind, .int .i64 s.deed.n, .int .i64 s.deed.m, .slice Ad s.deed.data.length cd] 68)) = w1 at hW
  obtain ⟨y0, y1, y2, y3, y4, y5, y6⟩ := hX.seven
  by_cases h3 : s.kind = 3
  rotate_left
  · have HP := Lib.hid (again_no (a := a) (.inl h3))
    have e3 : (s.kind != 3) = true := by simpa using h3
    clear h3 hX hA hD hI h hdv
    go_enter Try.func47, Try.ntmps47
    go_wp2
    go_ret
    exact ⟨by rw [HP.out]; rfl, hB⟩
  have e3 : (s.kind != 3) = false := by simpa using h3
  by_cases hn0 : s.n < 0
  · have HP := Lib.hid (again_no (a := a) (.inr (.inl hn0)))
    clear h3 hX hA hD hI h hdv
    go_enter Try.func47, Try.ntmps47
    go_wp2
    go_ret
    exact ⟨by rw [HP.out]; rfl, hB⟩
  by_cases hn11 : 11 < s.n
  · have HP := Lib.hid (again_no (a := a) (.inr (.inr hn11)))
    have d0 : decide (s.n < 0) = false := by simpa using hn0
    have d1 : decide (11 < s.n) = true := by simpa using hn11
    clear h3 hX hA hD hI h hdv
    go_enter Try.func47, Try.ntmps47
    go_wp2
    go_ret
    exact ⟨by rw [HP.out]; rfl, hB⟩
  obtain ⟨k, hk⟩ : ∃ k : Nat, s.n = k := ⟨s.n.toNat, by omega⟩
  have hk12 : k < 12 := by omega
  have HP := Lib.hid (again_yes (a := a) h3 hk hk12)
  obtain ⟨d, hd⟩ : ∃ d, k / 3 = d := ⟨_, rfl⟩
  obtain ⟨t, ht⟩ : ∃ t, k % 3 = t := ⟨_, rfl⟩
  rw [hd, ht] at HP
  have hd4 : d < 4 := by omega
  have ht3 : t < 3 := by omega
  obtain ⟨b1, o1, c1, A2, c2, hu1, hd1, hd2, hu2, hR⟩ := disks_cell (okBBB.grow hD hB) hsh hd4 ht3
  unfold maxLen at hd2
  have d0 : decide (s.n < 0) = false := by simpa using hn0
  have d1 : decide (11 < s.n) = false := by simpa using hn11
  rw [h3] at y0
  rw [hk] at y1
  rw [h3, hk] at hX hW ⊢
  rw [hk] at d0 d1
  have HQ := Lib.hid (quos k d t hk12 hd ht)
  clear h hdv hI hD h3 hk hn0 hn11 hsn hd ht hsh e3
  have HH := Lib.hid (And.intro hA (And.intro hX hB))
  clear hA hX hB
  go_enter Try.func47, Try.ntmps47
  go_wp2_with fail

  clear hW
  refine region_list [Cv (.pointer (some ⟨w.heap.size, 0, none⟩)), Cv (.slice (some ⟨b0, o0, none⟩) 4 c0), Cv (.pointer (some ⟨w.heap.size + 1, 1, none⟩)), Cv (.int .i64 k), Cv (.int .i64 d), Cv (.pointer (some ⟨b0, o0 + d, none⟩)), Cv (.slice (some ⟨b1, o1, none⟩) 3 c1), Cv (.pointer (some ⟨w.heap.size + 1, 1, none⟩)), Cv (.int .i64 k), Cv (.int .i64 t), Cv (.pointer (some ⟨b1, o1 + t, none⟩)), Cv (.slice A2 (cellAt a.disks d t).length c2), Cv (.pointer (some ⟨w.heap.size + 1, 1, none⟩)), Cv (.int .i64 k), Cv (.int .i64 d), Cv (.pointer (some ⟨w.heap.size + 1, 1, none⟩)), Cv (.int .i64 k), Cv (.int .i64 t), Kt (readC (cellAt a.disks d t) d t).2, Kt (readC (cellAt a.disks d t) d t).2, Tv, Cv (.int .i64 (readC (cellAt a.disks d t) d t).2), Tv, Cv (.int .i64 (readC (cellAt a.disks d t) d t).2)] (by kernel_rfl) (by kernel_rfl) (by kernel_rfl) ?_ ?_ ?_
  · repeat (first | exact trivial | refine ⟨mC _, ?_⟩ | refine ⟨mR okB _, ?_⟩ | refine ⟨mT, ?_⟩ | refine ⟨mR okBB _, ?_⟩ | refine ⟨mR okBBB _, ?_⟩ | refine ⟨mKt _, ?_⟩ | refine ⟨mRa _ _, ?_⟩)
  · simp only [StepsL]
    refine ⟨?_, ?_, ?_, ?_, ?_, ?_, ?_, ?_, ?_, ?_, ?_, ?_, ?_, ?_, ?_, ?_, ?_, ?_, ?_, ?_, ?_, ?_, ?_, ?_, trivial⟩
    · intro ys wx hw hd K hK
      simp only [putL, Act.put, List.setIfInBounds_toArray, List.set_cons_zero, List.set_cons_succ, Nat.zero_add, Nat.reduceAdd] at hK ⊢
      rw [if_pos (by rfl)]
      go_simp
      exact hK _ _ (Below.refl _ _) rfl
    · intro ys wx hw hd K hK
      have e0 : ys 0 = _ := hd 0 (by decide)
      simp only [putL, Act.put, List.setIfInBounds_toArray, List.set_cons_zero, List.set_cons_succ, Nat.zero_add, Nat.reduceAdd, e0] at hK ⊢
      rw [if_pos (by rfl)]
      obtain ⟨kb0, kb1, _⟩ := (HH.out.1.grow hw).two
      go_simp
      exact hK _ _ (Below.refl _ _) rfl
    · intro ys wx hw hd K hK
      simp only [putL, Act.put, List.setIfInBounds_toArray, List.set_cons_zero, List.set_cons_succ, Nat.zero_add, Nat.reduceAdd] at hK ⊢
      rw [if_pos (by rfl)]
      go_simp
      exact hK _ _ (Below.refl _ _) rfl
    · intro ys wx hw hd K hK
      have e2 : ys 2 = _ := hd 2 (by decide)
      simp only [putL, Act.put, List.setIfInBounds_toArray, List.set_cons_zero, List.set_cons_succ, Nat.zero_add, Nat.reduceAdd, e2] at hK ⊢
      rw [if_pos (by rfl)]
      obtain ⟨kb0, kb1, kb2, kb3, kb4, kb5, kb6, _⟩ := (HH.out.2.1.grow hw).seven_
      go_simp
      exact hK _ _ (Below.refl _ _) rfl
    · intro ys wx hw hd K hK
      have e3 : ys 3 = _ := hd 3 (by decide)
      simp only [putL, Act.put, List.setIfInBounds_toArray, List.set_cons_zero, List.set_cons_succ, Nat.zero_add, Nat.reduceAdd, e3] at hK ⊢
      rw [if_pos (by rfl)]
      obtain ⟨q4, q5, q9, qa, qb⟩ := HQ.out
      go_simp
      exact hK _ _ (Below.refl _ _) rfl
    · intro ys wx hw hd K hK
      have e1 : ys 1 = _ := hd 1 (by decide)
      have e4 : ys 4 = _ := hd 4 (by decide)
      simp only [putL, Act.put, List.setIfInBounds_toArray, List.set_cons_zero, List.set_cons_succ, Nat.zero_add, Nat.reduceAdd, e1, e4] at hK ⊢
      rw [if_pos (by rfl)]
      have r1 : (d : Int) < 4 := by omega
      have r0 : (0 : Int) ≤ d := by omega
      have r2 : (d : Int).toNat = d := by omega
      go_simp
      exact hK _ _ (Below.refl _ _) rfl
    · intro ys wx hw hd K hK
      have e5 : ys 5 = _ := hd 5 (by decide)
      simp only [putL, Act.put, List.setIfInBounds_toArray, List.set_cons_zero, List.set_cons_succ, Nat.zero_add, Nat.reduceAdd, e5] at hK ⊢
      rw [if_pos (by rfl)]
      have kx := (hw.cell (World.block_lt_of_cell? _ _ hu1)).trans hu1
      go_simp
      exact hK _ _ (Below.refl _ _) rfl
    · intro ys wx hw hd K hK
      simp only [putL, Act.put, List.setIfInBounds_toArray, List.set_cons_zero, List.set_cons_succ, Nat.zero_add, Nat.reduceAdd] at hK ⊢
      rw [if_pos (by rfl)]
      go_simp
      exact hK _ _ (Below.refl _ _) rfl
    · intro ys wx hw hd K hK
      have e7 : ys 7 = _ := hd 7 (by decide)
      simp only [putL, Act.put, List.setIfInBounds_toArray, List.set_cons_zero, List.set_cons_succ, Nat.zero_add, Nat.reduceAdd, e7] at hK ⊢
      rw [if_pos (by rfl)]
      obtain ⟨kb0, kb1, kb2, kb3, kb4, kb5, kb6, _⟩ := (HH.out.2.1.grow hw).seven_
      go_simp
      exact hK _ _ (Below.refl _ _) rfl
    · intro ys wx hw hd K hK
      have e8 : ys 8 = _ := hd 8 (by decide)
      simp only [putL, Act.put, List.setIfInBounds_toArray, List.set_cons_zero, List.set_cons_succ, Nat.zero_add, Nat.reduceAdd, e8] at hK ⊢
      rw [if_pos (by rfl)]
      obtain ⟨q4, q5, q9, qa, qb⟩ := HQ.out
      go_simp
      exact hK _ _ (Below.refl _ _) rfl
    · intro ys wx hw hd K hK
      have e6 : ys 6 = _ := hd 6 (by decide)
      have e9 : ys 9 = _ := hd 9 (by decide)
      simp only [putL, Act.put, List.setIfInBounds_toArray, List.set_cons_zero, List.set_cons_succ, Nat.zero_add, Nat.reduceAdd, e6, e9] at hK ⊢
      rw [if_pos (by rfl)]
      have r1 : (t : Int) < 3 := by omega
      have r0 : (0 : Int) ≤ t := by omega
      have r2 : (t : Int).toNat = t := by omega
      go_simp
      exact hK _ _ (Below.refl _ _) rfl
    · intro ys wx hw hd K hK
      have e10 : ys 10 = _ := hd 10 (by decide)
      simp only [putL, Act.put, List.setIfInBounds_toArray, List.set_cons_zero, List.set_cons_succ, Nat.zero_add, Nat.reduceAdd, e10] at hK ⊢
      rw [if_pos (by rfl)]
      have kx := (hw.cell (World.block_lt_of_cell? _ _ hu2)).trans hu2
      go_simp
      exact hK _ _ (Below.refl _ _) rfl
    · intro ys wx hw hd K hK
      simp only [putL, Act.put, List.setIfInBounds_toArray, List.set_cons_zero, List.set_cons_succ, Nat.zero_add, Nat.reduceAdd] at hK ⊢
      rw [if_pos (by rfl)]
      go_simp
      exact hK _ _ (Below.refl _ _) rfl
    · intro ys wx hw hd K hK
      have e12 : ys 12 = _ := hd 12 (by decide)
      simp only [putL, Act.put, List.setIfInBounds_toArray, List.set_cons_zero, List.set_cons_succ, Nat.zero_add, Nat.reduceAdd, e12] at hK ⊢
      rw [if_pos (by rfl)]
      obtain ⟨kb0, kb1, kb2, kb3, kb4, kb5, kb6, _⟩ := (HH.out.2.1.grow hw).seven_
      go_simp
      exact hK _ _ (Below.refl _ _) rfl
    · intro ys wx hw hd K hK
      have e13 : ys 13 = _ := hd 13 (by decide)
      simp only [putL, Act.put, List.setIfInBounds_toArray, List.set_cons_zero, List.set_cons_succ, Nat.zero_add, Nat.reduceAdd, e13] at hK ⊢
      rw [if_pos (by rfl)]
      obtain ⟨q4, q5, q9, qa, qb⟩ := HQ.out
      go_simp
      exact hK _ _ (Below.refl _ _) rfl
    · intro ys wx hw hd K hK
      simp only [putL, Act.put, List.setIfInBounds_toArray, List.set_cons_zero, List.set_cons_succ, Nat.zero_add, Nat.reduceAdd] at hK ⊢
      rw [if_pos (by rfl)]
      go_simp
      exact hK _ _ (Below.refl _ _) rfl
    · intro ys wx hw hd K hK
      have e15 : ys 15 = _ := hd 15 (by decide)
      simp only [putL, Act.put, List.setIfInBounds_toArray, List.set_cons_zero, List.set_cons_succ, Nat.zero_add, Nat.reduceAdd, e15] at hK ⊢
      rw [if_pos (by rfl)]
      obtain ⟨kb0, kb1, kb2, kb3, kb4, kb5, kb6, _⟩ := (HH.out.2.1.grow hw).seven_
      go_simp
      exact hK _ _ (Below.refl _ _) rfl
    · intro ys wx hw hd K hK
      have e16 : ys 16 = _ := hd 16 (by decide)
      simp only [putL, Act.put, List.setIfInBounds_toArray, List.set_cons_zero, List.set_cons_succ, Nat.zero_add, Nat.reduceAdd, e16] at hK ⊢
      rw [if_pos (by rfl)]
      obtain ⟨q4, q5, q9, qa, qb⟩ := HQ.out
      go_simp
      exact hK _ _ (Below.refl _ _) rfl
    · intro ys wx hw hd K hK
      have e11 : ys 11 = _ := hd 11 (by decide)
      have e14 : ys 14 = _ := hd 14 (by decide)
      have e17 : ys 17 = _ := hd 17 (by decide)
      simp only [putL, Act.put, List.setIfInBounds_toArray, List.set_cons_zero, List.set_cons_succ, Nat.zero_add, Nat.reduceAdd, e11, e14, e17] at hK ⊢
      rw [if_pos (by rfl)]
      go_simp
      refine (ref_CellRead _ d t _ _ _ (okB.grow hR hw)).mono ?_
      rintro e w' ⟨v', rfl, hr', hb'⟩
      exact hK _ _ hb' ⟨_, rfl⟩
    · intro ys wx hw hd K hK
      have k18 := hd 18 (by decide)
      change (Kt (readC (cellAt a.disks d t) d t).2) wx (ys 18) at k18
      simp only [putL, Act.put, List.setIfInBounds_toArray, List.set_cons_zero, List.set_cons_succ, Nat.zero_add, Nat.reduceAdd] at hK ⊢
      rw [if_pos (by rfl)]
      go_simp
      exact hK _ _ (Below.refl _ _) k18
    · intro ys wx hw hd K hK
      have k19 := hd 19 (by decide)
      change (Kt (readC (cellAt a.disks d t) d t).2) wx (ys 19) at k19
      simp only [putL, Act.put, List.setIfInBounds_toArray, List.set_cons_zero, List.set_cons_succ, Nat.zero_add, Nat.reduceAdd] at hK ⊢
      rw [if_pos (by rfl)]
      obtain ⟨u, hu⟩ := k19
      simp only [hu] at hK ⊢
      go_simp
      exact hK _ _ (Below.refl _ _) trivial
    · intro ys wx hw hd K hK
      have k19 := hd 19 (by decide)
      change (Kt (readC (cellAt a.disks d t) d t).2) wx (ys 19) at k19
      simp only [putL, Act.put, List.setIfInBounds_toArray, List.set_cons_zero, List.set_cons_succ, Nat.zero_add, Nat.reduceAdd] at hK ⊢
      rw [if_pos (by rfl)]
      obtain ⟨u, hu⟩ := k19
      simp only [hu] at hK ⊢
      go_simp
      exact hK _ _ (Below.refl _ _) rfl
    · intro ys wx hw hd K hK
      simp only [putL, Act.put, List.setIfInBounds_toArray, List.set_cons_zero, List.set_cons_succ, Nat.zero_add, Nat.reduceAdd] at hK ⊢
      rw [if_pos (by rfl)]
      go_simp
      exact hK _ _ (Below.refl _ _) trivial
    · intro ys wx hw hd K hK
      have e21 : ys 21 = _ := hd 21 (by decide)
      simp only [putL, Act.put, List.setIfInBounds_toArray, List.set_cons_zero, List.set_cons_succ, Nat.zero_add, Nat.reduceAdd, e21] at hK ⊢
      rw [if_pos (by rfl)]
      go_simp
      exact hK _ _ (Below.refl _ _) rfl
  · intro ys w' hl' hV
    have e23 : ys 23 = _ := hV 23 (by decide)
    clear hV
    simp only [putL, Act.put, List.setIfInBounds_toArray, List.set_cons_zero, List.set_cons_succ, Nat.zero_add, Nat.reduceAdd, e23]
    clear e23
    generalize (readC (cellAt a.disks d t) d t).2 = r at *
    have hbe := HH.out.2.2.trans (hl'.mono HH.out.2.2.size)
    clear hl'
    go_wp2
    go_ret
    exact ⟨by rw [HP.out]; rfl, hbe⟩
end Go.Proofs.Ytoendmbgfbhidaa

namespace Go.Proofs.Ytoendmbgfbhidaa
set_option linter.unusedVariables false
open Go Go.RowKit M
theorem gently_nil (n : Nat) (a : Arr) : gently n a [] = a := by unfold gently; split <;> first | rfl | contradiction
theorem gently_stop {n : Nat} {a : Arr} {s : Step} {l : List Step} (h : againA a s = true ∨ 1 < worstA (stepR a s).1.disks) : gently (n + 1) a (s :: l) = a := by
  show (if againA a s || decide (1 < worstA (stepR a s).1.disks) then a else gently n (stepR a s).1 l) = a
  rw [if_pos]
  rcases h with h | h <;> simp [h]
theorem gently_go {n : Nat} {a : Arr} {s : Step} {l : List Step} (h1 : againA a s = false) (h2 : ¬ 1 < worstA (stepR a s).1.disks) : gently (n + 1) a (s :: l) = gently n (stepR a s).1 l := by
  show (if againA a s || decide (1 < worstA (stepR a s).1.disks) then a else gently n (stepR a s).1 l) = _
  rw [if_neg]
  simp [h1, h2]
set_option maxRecDepth 100000 in
set_option maxHeartbeats 1600000 in
theorem ref_PlayGently (l : List Step) (v : Value) (F : Fp) (w : World) (h : RdSts w F v l) :
    Calls Try.prog 33 #[v] w fun e w' => ∃ v', e = .returned v' ∧ RdA w' (fun k => w.heap.size ≤ k) v' (gentlyA l) ∧ Below w.heap.size w w' := by
  obtain ⟨A, c, rfl, hlc, hm, hl⟩ := id h.lt
  unfold maxLen at hm
  have h0 := boxAt_new w 30 [.slice none 0 0, .slice none 0 0]
  have hb0 := below_alloc w (.cells #[.slice none 0 0, .slice none 0 0] 30)
  have hsz0 := alloc_size w (.cells #[.slice none 0 0, .slice none 0 0] 30)
  change BoxAt (w.alloc (.cells #[.slice none 0 0, .slice none 0 0] 30)) _ _ _ at h0
  have HL := Lib.hid h.lt
  clear hl h
  go_enter Try.func33, Try.ntmps33
  go_wp2_with fail
  generalize w.alloc (.cells #[.slice none 0 0, .slice none 0 0] 30) = w1 at *
  refine (ref_New _).mono ?_
  rintro e w2 ⟨v2, rfl, hr2, hb2⟩
  obtain ⟨b0, o0, c0, Ai, ci, rfl, _, _, _, _⟩ := RdA_open hr2 good_new.1.shape
  have hal := below_alloc w2 (.cells #[.slice (some ⟨b0, o0, none⟩) 4 c0, .slice Ai newA.ints.length ci] 30)
  have hA := boxAt_new w2 30 [.slice (some ⟨b0, o0, none⟩) 4 c0, .slice Ai newA.ints.length ci]
  have hr3 := hr2.lt.grow hal
  have hb3 := hb2.trans (hal.mono hb2.size)
  have hB := hb0.trans (hb3.mono hb0.size)
  have hZ := h0.grow hb3
  obtain ⟨w3, hw3⟩ : ∃ x, w2.alloc (.cells #[.slice (some ⟨b0, o0, none⟩) 4 c0, .slice Ai newA.ints.length ci] 30) = x := ⟨_, rfl⟩
  change BoxAt (w2.alloc (.cells #[.slice (some ⟨b0, o0, none⟩) 4 c0, .slice Ai newA.ints.length ci] 30)) _ _ _ at hA
  rw [hw3] at hA hr3 hB hZ
  obtain ⟨BA, hBA⟩ : ∃ x, w2.heap.size = x := ⟨_, rfl⟩
  rw [hBA] at hA hr3
  have hge : w.heap.size + 1 ≤ BA := by rw [← hBA, ← hsz0]; exact hb2.size
  have HH := Lib.hid (And.intro hA (And.intro hr3 (And.intro hB (And.intro hZ hge))))
  clear hal hA hr3 hb3 hB hZ hge hr2 hb2 h0 hb0
  go_wp2_with fail
  go_loopw [11] (fun i wr => ∃ (k : Nat) (a : Arr), k ≤ l.length ∧ k ≤ 100 ∧ i = .int .i64 k ∧ gently (100 - k) a (l.drop k) = gentlyA l ∧ Shape a.disks ∧ a.ints = [] ∧ (∃ dv iv, BoxAt wr BA 30 [dv, iv] ∧ RdA wr (fun q => w.heap.size + 1 ≤ q ∧ q ≠ BA) (.agg #[dv, iv]) a) ∧ BoxAt wr w.heap.size 30 [.slice none 0 0, .slice none 0 0] ∧ Below w.heap.size w wr) (fun i _ => l.length - (intOf i).toNat)
  case atStart => exact ⟨0, newA, Nat.zero_le _, Nat.zero_le _, rfl, rfl, good_new.1.shape, rfl, ⟨_, _, HH.out.1, HH.out.2.1.mono fun q hq => by omega⟩, HH.out.2.2.2.1, HH.out.2.2.1⟩
  case round =>
    obtain ⟨k, a, hk, hk1, rfl, hg, hsk, hik, ⟨dv, iv, hA, hR⟩, hZ, hB⟩ := hrel
    have HG := Lib.hid hg
    clear hg
    obtain ⟨b1, o1, c1, A1, c2, hag, _, _, hc11, hc12⟩ := RdA_open hR hsk
    injection hag with hag
    simp only [Array.mk.injEq, List.cons.injEq, and_true] at hag
    obtain ⟨rfl, rfl⟩ := hag
    rw [show a.ints.length = 0 by rw [hik]; rfl] at hA hR
    by_cases hlt : k < l.length
    rotate_left
    · have hall : a = gentlyA l := by rw [← HG.out, List.drop_of_length_le (by omega), gently_nil]
      obtain ⟨x0, x1, x2, x3⟩ := hA.two
      obtain ⟨z0, z1, z2, z3⟩ := hZ.two
      have hRb := ret_box (F' := fun k => w.heap.size ≤ k) hZ hB (Nat.le_refl _) hR (fun k hk => by omega) fun k hk => by omega
      have HF := Lib.hid (And.intro hall hRb)
      clear hall hA hR hZ hB hRb
      go_wp2_with fail
      exact bodyPost_ret (v := .agg #[.slice (some ⟨b1, o1, none⟩) 4 c1, .slice A1 0 c2]) (by simp [results, Try.results33, go_sem, *]) rfl ⟨_, rfl, by rw [← HF.out.1]; exact HF.out.2.1, HF.out.2.2⟩
    obtain ⟨s, hs⟩ : ∃ s, l[k]? = some s := ⟨_, List.getElem?_eq_getElem hlt⟩
    have HDrop := Lib.hid (show l.drop k = s :: l.drop (k + 1) by rw [List.drop_eq_getElem_cons hlt]; congr 1; exact (List.getElem?_eq_some_iff.1 hs).2)
    obtain ⟨_, _, e1, _, _, hl⟩ := HL.out.below hB fun _ hk _ => hk.2
    injection e1 with e1 e2 e3
    subst e1; subst e3
    obtain ⟨b, off, rfl, hb, hb', g0, g1, g2, g3, g4, g5, hsn, ud, g6, hud⟩ := hl k s hs
    obtain ⟨Ad, cd, rfl, _, _⟩ := hud.shape
    have hbs := hb.2
    clear hl
    have hal := below_alloc wr (.cells #[.int .i64 s.kind, .int .i64 s.n, .int .i64 s.m, .int .i64 s.deed.kind, .int .i64 s.deed.n, .int .i64 s.deed.m, .slice Ad s.deed.data.length cd] 68)
    have hX := boxAt_new wr 68 [.int .i64 s.kind, .int .i64 s.n, .int .i64 s.m, .int .i64 s.deed.kind, .int .i64 s.deed.n, .int .i64 s.deed.m, .slice Ad s.deed.data.length cd]
    obtain ⟨wx, hwx⟩ : ∃ x, wr.alloc (.cells #[.int .i64 s.kind, .int .i64 s.n, .int .i64 s.m, .int .i64 s.deed.kind, .int .i64 s.deed.n, .int .i64 s.deed.m, .slice Ad s.deed.data.length cd] 68) = x := ⟨_, rfl⟩
    change BoxAt (wr.alloc (.cells #[.int .i64 s.kind, .int .i64 s.n, .int .i64 s.m, .int .i64 s.deed.kind, .int .i64 s.deed.n, .int .i64 s.deed.m, .slice Ad s.deed.data.length cd] 68)) _ _ _ at hX
    rw [hwx] at hal hX
    have hst : RdSt wx (fun k => k < w.heap.size) (.agg #[.int .i64 s.kind, .int .i64 s.n, .int .i64 s.m, .int .i64 s.deed.kind, .int .i64 s.deed.n, .int .i64 s.deed.m, .slice Ad s.deed.data.length cd]) s := ⟨_, rfl, hsn, okB.mono (okB.grow hud hal) fun k hk => hk.2⟩
    have hA2 := hA.grow hal
    have hR2 := hR.grow hal
    have hZ2 := hZ.grow hal
    have hB2 := hB.trans (hal.mono hB.size)
    obtain ⟨x0, x1, x2, x3⟩ := hA2.two
    obtain ⟨y0, y1, y2, y3, y4, y5, y6⟩ := hX.seven
    have H1 := Lib.hid (And.intro hA2 (And.intro hZ2 (And.intro hB2 hX)))
    have HST := Lib.hid (And.intro hR2 hst)
    have HSK := Lib.hid (And.intro hsk hik)
    have hszx := hB2.size
    clear hA hR hZ hB hA2 hR2 hZ2 hB2 hX hst hud hal hsk hik hs
    go_wp2_with fail
    refine (ref_Step a s _ _ _ _ HST.out.1 HST.out.2 HSK.out.1 HSK.out.2).mono ?_
    rintro e w4 ⟨v4, rfl, hr4, hb4⟩
    obtain ⟨hsh4, hi4⟩ := stepR_good HSK.out.1 HSK.out.2 s
    have GS := Lib.hid (@gently_stop (99 - k) a s (l.drop (k + 1)))
    have GG := Lib.hid (@gently_go (99 - k) a s (l.drop (k + 1)))
    generalize (stepR a s).2 = er at *
    generalize (stepR a s).1 = x at *
    obtain ⟨b3, o3, c3, A3, c4, rfl, _, _, _, _⟩ := RdA_open hr4 hsh4
    rw [show x.ints.length = 0 by rw [hi4]; rfl] at hr4 ⊢
    have hal4 := below_alloc w4 (.cells #[.slice (some ⟨b3, o3, none⟩) 4 c3, .slice A3 0 c4] 30)
    have hY4 := boxAt_new w4 30 [.slice (some ⟨b3, o3, none⟩) 4 c3, .slice A3 0 c4]
    have hb5 := hb4.trans (hal4.mono hb4.size)
    have hA5 := H1.out.1.grow hb5
    have hZ5 := H1.out.2.1.grow hb5
    have hB5 := H1.out.2.2.1.trans (hb5.mono H1.out.2.2.1.size)
    have hX5 := H1.out.2.2.2.grow hb5
    have hr5 := hr4.grow hal4
    have hR5 := HST.out.1.grow hb5
    obtain ⟨dv5, e5, hsn5, hd5⟩ := HST.out.2
    have hst5 : RdSt (w4.alloc (.cells #[.slice (some ⟨b3, o3, none⟩) 4 c3, .slice A3 0 c4] 30)) (fun k => k < w.heap.size) _ s := ⟨dv5, e5, hsn5, okB.grow hd5 hb5⟩
    have hs4 := hb4.size
    have hBAx := H1.out.1.lt
    obtain ⟨w5, hw5⟩ : ∃ x, w4.alloc (.cells #[.slice (some ⟨b3, o3, none⟩) 4 c3, .slice A3 0 c4] 30) = x := ⟨_, rfl⟩
    change BoxAt (w4.alloc (.cells #[.slice (some ⟨b3, o3, none⟩) 4 c3, .slice A3 0 c4] 30)) _ _ _ at hY4
    rw [hw5] at hal4 hY4 hA5 hZ5 hB5 hr5 hX5 hst5 hR5
    have hge := HH.out.2.2.2.2
    have HW := Lib.hid hw5
    obtain ⟨Y4, hY⟩ : ∃ y, w4.heap.size = y := ⟨_, rfl⟩
    rw [hY] at hY4
    have HY := Lib.hid (And.intro hY4 (And.intro hr5 (And.intro hst5 (And.intro hR5 (And.intro hsh4 hi4)))))
    have H5 := Lib.hid (And.intro hA5 (And.intro hZ5 (And.intro hB5 hX5)))
    obtain ⟨p0, p1, p2, p3⟩ := hY4.two
    obtain ⟨q0, q1, q2, q3⟩ := hA5.two
    obtain ⟨z0, z1, z2, z3⟩ := hZ5.two
    obtain ⟨u0, u1, u2, u3, u4, u5, u6⟩ := hX5.seven
    clear dv5 e5 hsn5 hd5 hal4 hY4 hb5 hA5 hZ5 hB5 hX5 hr5 hR5 hst5 hr4 hb4 hsh4 hi4 x0 x1 x2 x3 y0 y1 y2 y3 y4 y5 y6
    by_cases h100 : k = 100
    · have hall : a = gentlyA l := by rw [← HG.out, h100]; unfold gently; rfl
      have hRb := ret_box (F' := fun k => w.heap.size ≤ k) H5.out.2.1 H5.out.2.2.1 (Nat.le_refl _) HY.out.2.2.2.1 (fun k hk => by omega) fun k hk => by omega
      have HF := Lib.hid (And.intro hall hRb)
      clear hall hRb
      subst h100
      go_wp2_with fail
      exact bodyPost_ret (v := .agg #[.slice (some ⟨b1, o1, none⟩) 4 c1, .slice A1 0 c2]) (by simp [results, Try.results33, go_sem, *]) rfl ⟨_, rfl, by rw [← HF.out.1]; exact HF.out.2.1, HF.out.2.2⟩
    have hk99 : k < 100 := by omega
    have hne100 : ((k : Int) == 100) = false := by simp; omega
    have HNow := Lib.hid (show gently (99 - k + 1) a (s :: l.drop (k + 1)) = gentlyA l by rw [← HG.out, HDrop.out]; congr 1; omega)
    clear h100
    go_wp2_with fail
    refine (ref_Again a s _ _ _ _ HY.out.2.2.2.1 HY.out.2.2.1 HSK.out.1).mono ?_
    rintro e w6 ⟨rfl, hb6⟩
    have hA6 := H5.out.1.grow hb6
    have hZ6 := H5.out.2.1.grow hb6
    have hB6 := H5.out.2.2.1.trans (hb6.mono H5.out.2.2.1.size)
    have hY6 := HY.out.1.grow hb6
    have hx6 := HY.out.2.1.grow hb6
    have hR6 := HY.out.2.2.2.1.grow hb6
    have HY6 := Lib.hid (And.intro hY6 (And.intro hx6 hR6))
    have H6 := Lib.hid (And.intro hA6 (And.intro hZ6 hB6))
    clear p0 p1 p2 p3 q0 q1 q2 q3 z0 z1 z2 z3 u0 u1 u2 u3 u4 u5 u6
    obtain ⟨p0, p1, p2, p3⟩ := hY6.two
    obtain ⟨q0, q1, q2, q3⟩ := hA6.two
    obtain ⟨z0, z1, z2, z3⟩ := hZ6.two
    clear hA6 hZ6 hB6 hY6 hx6 hR6 hb6
    by_cases hag : againA a s = true
    · have hall : a = gentlyA l := by rw [← HNow.out]; exact (GS.out (.inl hag)).symm
      have hRb := ret_box (F' := fun k => w.heap.size ≤ k) H6.out.2.1 H6.out.2.2 (Nat.le_refl _) HY6.out.2.2 (fun k hk => by omega) fun k hk => by omega
      have HF := Lib.hid (And.intro hall hRb)
      rw [hag]
      clear hall hRb hag
      go_wp2_with fail
      exact bodyPost_ret (v := .agg #[.slice (some ⟨b1, o1, none⟩) 4 c1, .slice A1 0 c2]) (by simp [results, Try.results33, go_sem, *]) rfl ⟨_, rfl, by rw [← HF.out.1]; exact HF.out.2.1, HF.out.2.2⟩
    have hag' : againA a s = false := by simpa using hag
    rw [hag']
    have HAG := Lib.hid hag'
    clear hag hag'
    go_wp2_with fail
    refine (ref_Worst x _ _ _ HY6.out.2.1 HY.out.2.2.2.2.1).mono ?_
    rintro e w7 ⟨rfl, hb7⟩
    have hA7 := H6.out.1.grow hb7
    have hZ7 := H6.out.2.1.grow hb7
    have hB7 := H6.out.2.2.trans (hb7.mono H6.out.2.2.size)
    have hY7 := HY6.out.1.grow hb7
    have hx7 := HY6.out.2.1.grow hb7
    have hR7 := HY6.out.2.2.grow hb7
    clear p0 p1 p2 p3 q0 q1 q2 q3 z0 z1 z2 z3
    obtain ⟨p0, p1, p2, p3⟩ := hY7.two
    obtain ⟨q0, q1, q2, q3⟩ := hA7.two
    obtain ⟨z0, z1, z2, z3⟩ := hZ7.two
    by_cases hw1 : 1 < worstA x.disks
    · have hall : a = gentlyA l := by rw [← HNow.out]; exact (GS.out (.inr hw1)).symm
      have hRb := ret_box (F' := fun k => w.heap.size ≤ k) hZ7 hB7 (Nat.le_refl _) hR7 (fun k hk => by omega) fun k hk => by omega
      have HF := Lib.hid (And.intro hall hRb)
      have hd : decide ((1 : Int) < ((worstA x.disks : Nat) : Int)) = true := by simp; omega
      clear hall hRb hA7 hZ7 hB7 hY7 hx7 hR7 hb7 hw1
      generalize ((worstA x.disks : Nat) : Int) = ww at *
      go_wp2_with fail
      exact bodyPost_ret (v := .agg #[.slice (some ⟨b1, o1, none⟩) 4 c1, .slice A1 0 c2]) (by simp [results, Try.results33, go_sem, *]) rfl ⟨_, rfl, by rw [← HF.out.1]; exact HF.out.2.1, HF.out.2.2⟩
    have hd : decide ((1 : Int) < ((worstA x.disks : Nat) : Int)) = false := by simp; omega
    have hgo := (GG.out HAG.out hw1).symm.trans HNow.out
    have f1 : BoxAt (set2 w7 BA (.slice (some ⟨b3, o3, none⟩) 4 c3) (.slice A3 0 c4)) _ _ _ := hA7.put2
    have f2 : RdA (set2 w7 BA (.slice (some ⟨b3, o3, none⟩) 4 c3) (.slice A3 0 c4)) _ _ _ := hx7.set2 (b := BA) fun q hq => by omega
    have f3 : BoxAt (set2 w7 BA (.slice (some ⟨b3, o3, none⟩) 4 c3) (.slice A3 0 c4)) _ _ _ := hZ7.far2 (by omega)
    have f5 := hB7.trans (below_set2 (b := BA) (v0 := .slice (some ⟨b3, o3, none⟩) 4 c3) (v1 := .slice A3 0 c4) (by omega))
    have H := Lib.hid (And.intro f1 (And.intro (f2.mono (F' := fun q => w.heap.size + 1 ≤ q ∧ q ≠ BA) fun q hq => by omega) (And.intro f3 (And.intro f5 hgo))))
    clear f1 f2 f3 f5 hgo hA7 hZ7 hB7 hY7 hx7 hR7 hb7 hw1
    generalize ((worstA x.disks : Nat) : Int) = ww at *
    go_wp2_with fail
    go_roundw
    case rel => exact ⟨k + 1, x, by omega, by omega, by go_num, by rw [show 100 - (k + 1) = 99 - k by omega]; exact H.out.2.2.2.2, HY.out.2.2.2.2.1, HY.out.2.2.2.2.2, ⟨_, _, H.out.1, H.out.2.1⟩, H.out.2.2.1, H.out.2.2.2.1⟩
    case measure => simp [intOf]; omega
end Go.Proofs.Ytoendmbgfbhidaa

namespace Go.Proofs.Ytoendmbgfbhidaa
set_option linter.unusedVariables false
open Go Go.RowKit M
theorem rows_eq {A B : List (List Bs)} (hA : A.length = 4) (hB : B.length = 4) (h : ∀ j, j < 4 → A.getD j [] = B.getD j []) : A = B := by
  apply List.ext_getElem (by omega)
  intro i h1 h2
  have := h i (by omega)
  simpa [List.getD, List.getElem?_eq_getElem h1, List.getElem?_eq_getElem h2] using this
set_option maxRecDepth 100000 in
set_option maxHeartbeats 1600000 in
theorem ref_Same (a b : Arr) (v vb : Value) (F F2 : Fp) (w : World) (h : RdA w F v a) (h2 : RdA w F2 vb b) (hsh : Shape a.disks) (hsh2 : Shape b.disks) (hno : a.ints = []) (hno2 : b.ints = []) :
    Calls Try.prog 14 #[v, vb] w fun e w' => e = .returned (.bool (a.disks == b.disks)) ∧ Below w.heap.size w w' := by
  obtain ⟨b0, o0, c0, Ai, ci, rfl, hD, hI, hc0, hc1⟩ := RdA_open h hsh
  obtain ⟨b1, o1, c1, Aj, cj, rfl, hD2, hI2, hd0, hd1⟩ := RdA_open h2 hsh2
  rw [show a.ints.length = 0 by rw [hno]; rfl, show b.ints.length = 0 by rw [hno2]; rfl] at *
  obtain ⟨w1, hW, hA, hX, hB, hsz⟩ := boxes2 w [.slice (some ⟨b0, o0, none⟩) 4 c0, .slice Ai 0 ci] [.slice (some ⟨b1, o1, none⟩) 4 c1, .slice Aj 0 cj] 30 30
  change ((w.alloc (.cells #[.slice (some ⟨b0, o0, none⟩) 4 c0, .slice Ai 0 ci] 30)).alloc (.cells #[.slice (some ⟨b1, o1, none⟩) 4 c1, .slice Aj 0 cj] 30)) = w1 at hW
  obtain ⟨x0, x1, x2, x3⟩ := hA.two
  obtain ⟨y0, y1, y2, y3⟩ := hX.two
  replace hD := okBBB.grow hD hB
  replace hD2 := okBBB.grow hD2 hB
  have HS := Lib.hid (And.intro hsh hsh2)
  clear hI hI2 h h2 hsz hno hno2 hsh hsh2
  go_enter Try.func14, Try.ntmps14
  go_wp2_with fail
  clear hW x0 x1 x2 x3 y0 y1 y2 y3
  go_loopw [26] (fun i wr => ∃ k : Nat, k ≤ 4 ∧ i = .int .i64 k ∧ (∀ j, j < k → a.disks.getD j [] = b.disks.getD j []) ∧ Below w1.heap.size w1 wr) (fun i _ => 4 - (intOf i).toNat)
  case atStart => exact ⟨0, Nat.zero_le _, rfl, fun j hj => by omega, Below.refl _ _⟩
  case round =>
    obtain ⟨k, hk, rfl, hpre, hlw⟩ := hrel
    have HP := Lib.hid hpre
    clear hpre
    obtain ⟨x0, x1, x2, x3⟩ := (hA.grow hlw).two
    obtain ⟨y0, y1, y2, y3⟩ := (hX.grow hlw).two
    by_cases hlt : k < 4
    · obtain ⟨p1, p2, p3, hp1, hp2, hp3, hp4⟩ := disks_row (okBBB.grow hD hlw) HS.out.1 hlt
      obtain ⟨q1, q2, q3, hq1, hq2, hq3, hq4⟩ := disks_row (okBBB.grow hD2 hlw) HS.out.2 hlt
      unfold maxLen at hp4 hq4
      have HR := Lib.hid (And.intro hp2 hq2)
      have HA := Lib.hid (And.intro (hA.grow hlw) (hX.grow hlw))
      have HLW := Lib.hid hlw
      obtain ⟨ra, hra⟩ : ∃ r, a.disks.getD k [] = r := ⟨_, rfl⟩
      obtain ⟨rb, hrb⟩ : ∃ r, b.disks.getD k [] = r := ⟨_, rfl⟩
      rw [hra, hrb] at HR
      have HRA := Lib.hid (And.intro hra hrb)
      clear hp2 hq2 hlw hra hrb
      have hbk : decide ((k : Int) < 4) = true := by simp; omega
      go_wp2_with fail
      clear x0 x1 x2 x3 y0 y1 y2 y3
      refine region_list [Cv (.pointer (some ⟨w.heap.size, 0, none⟩)), Cv (.slice (some ⟨b0, o0, none⟩) 4 c0), Cv (.int .i64 k), Cv (.pointer (some ⟨b0, o0 + k, none⟩)), Cv (.slice (some ⟨p1, p2, none⟩) 3 p3), Cv (.pointer (some ⟨w.heap.size + 1, 0, none⟩)), Cv (.slice (some ⟨b1, o1, none⟩) 4 c1), Cv (.int .i64 k), Cv (.pointer (some ⟨b1, o1 + k, none⟩)), Cv (.slice (some ⟨q1, q2, none⟩) 3 q3), Cv (.bool (ra == rb)), Cv (.bool (!(ra == rb)))] (by kernel_rfl) (by kernel_rfl) (by kernel_rfl) ?_ ?_ ?_
      · repeat (first | exact trivial | refine ⟨mC _, ?_⟩ | refine ⟨mR okB _, ?_⟩ | refine ⟨mT, ?_⟩ | refine ⟨mR okBB _, ?_⟩ | refine ⟨mR okBBB _, ?_⟩ | refine ⟨mKt _, ?_⟩ | refine ⟨mRa _ _, ?_⟩)
      · simp only [StepsL]
        refine ⟨?_, ?_, ?_, ?_, ?_, ?_, ?_, ?_, ?_, ?_, ?_, ?_, trivial⟩
        · intro ys wx hw hd K hK
          simp only [putL, Act.put, List.setIfInBounds_toArray, List.set_cons_zero, List.set_cons_succ, Nat.zero_add, Nat.reduceAdd] at hK ⊢
          rw [if_pos (by rfl)]
          go_simp
          exact hK _ _ (Below.refl _ _) rfl
        · intro ys wx hw hd K hK
          have e0 : ys 0 = _ := hd 0 (by decide)
          simp only [putL, Act.put, List.setIfInBounds_toArray, List.set_cons_zero, List.set_cons_succ, Nat.zero_add, Nat.reduceAdd, e0] at hK ⊢
          rw [if_pos (by rfl)]
          obtain ⟨kb0, kb1, _⟩ := (HA.out.1.grow hw).two
          go_simp
          exact hK _ _ (Below.refl _ _) rfl
        · intro ys wx hw hd K hK
          simp only [putL, Act.put, List.setIfInBounds_toArray, List.set_cons_zero, List.set_cons_succ, Nat.zero_add, Nat.reduceAdd] at hK ⊢
          rw [if_pos (by rfl)]
          go_simp
          exact hK _ _ (Below.refl _ _) rfl
        · intro ys wx hw hd K hK
          have e1 : ys 1 = _ := hd 1 (by decide)
          have e2 : ys 2 = _ := hd 2 (by decide)
          simp only [putL, Act.put, List.setIfInBounds_toArray, List.set_cons_zero, List.set_cons_succ, Nat.zero_add, Nat.reduceAdd, e1, e2] at hK ⊢
          rw [if_pos (by rfl)]
          have r1 : (k : Int) < 4 := by omega
          have r0 : (0 : Int) ≤ k := by omega
          have r2 : (k : Int).toNat = k := by omega
          go_simp
          exact hK _ _ (Below.refl _ _) rfl
        · intro ys wx hw hd K hK
          have e3 : ys 3 = _ := hd 3 (by decide)
          simp only [putL, Act.put, List.setIfInBounds_toArray, List.set_cons_zero, List.set_cons_succ, Nat.zero_add, Nat.reduceAdd, e3] at hK ⊢
          rw [if_pos (by rfl)]
          have kx := (hw.cell (World.block_lt_of_cell? _ _ hp1)).trans hp1
          go_simp
          exact hK _ _ (Below.refl _ _) rfl
        · intro ys wx hw hd K hK
          simp only [putL, Act.put, List.setIfInBounds_toArray, List.set_cons_zero, List.set_cons_succ, Nat.zero_add, Nat.reduceAdd] at hK ⊢
          rw [if_pos (by rfl)]
          go_simp
          exact hK _ _ (Below.refl _ _) rfl
        · intro ys wx hw hd K hK
          have e5 : ys 5 = _ := hd 5 (by decide)
          simp only [putL, Act.put, List.setIfInBounds_toArray, List.set_cons_zero, List.set_cons_succ, Nat.zero_add, Nat.reduceAdd, e5] at hK ⊢
          rw [if_pos (by rfl)]
          obtain ⟨kb0, kb1, _⟩ := (HA.out.2.grow hw).two
          go_simp
          exact hK _ _ (Below.refl _ _) rfl
        · intro ys wx hw hd K hK
          simp only [putL, Act.put, List.setIfInBounds_toArray, List.set_cons_zero, List.set_cons_succ, Nat.zero_add, Nat.reduceAdd] at hK ⊢
          rw [if_pos (by rfl)]
          go_simp
          exact hK _ _ (Below.refl _ _) rfl
        · intro ys wx hw hd K hK
          have e6 : ys 6 = _ := hd 6 (by decide)
          have e7 : ys 7 = _ := hd 7 (by decide)
          simp only [putL, Act.put, List.setIfInBounds_toArray, List.set_cons_zero, List.set_cons_succ, Nat.zero_add, Nat.reduceAdd, e6, e7] at hK ⊢
          rw [if_pos (by rfl)]
          have r1 : (k : Int) < 4 := by omega
          have r0 : (0 : Int) ≤ k := by omega
          have r2 : (k : Int).toNat = k := by omega
          go_simp
          exact hK _ _ (Below.refl _ _) rfl
        · intro ys wx hw hd K hK
          have e8 : ys 8 = _ := hd 8 (by decide)
          simp only [putL, Act.put, List.setIfInBounds_toArray, List.set_cons_zero, List.set_cons_succ, Nat.zero_add, Nat.reduceAdd, e8] at hK ⊢
          rw [if_pos (by rfl)]
          have kx := (hw.cell (World.block_lt_of_cell? _ _ hq1)).trans hq1
          go_simp
          exact hK _ _ (Below.refl _ _) rfl
        · intro ys wx hw hd K hK
          have e4 : ys 4 = _ := hd 4 (by decide)
          have e9 : ys 9 = _ := hd 9 (by decide)
          simp only [putL, Act.put, List.setIfInBounds_toArray, List.set_cons_zero, List.set_cons_succ, Nat.zero_add, Nat.reduceAdd, e4, e9] at hK ⊢
          rw [if_pos (by rfl)]
          go_simp
          refine (ref_SameBytes ra rb _ _ (fun k => F k ∧ k < w.heap.size ∨ F2 k ∧ k < w.heap.size) _ (okBB.mono (okBB.grow HR.out.1 hw) fun _ hk => .inl hk) (okBB.mono (okBB.grow HR.out.2 hw) fun _ hk => .inr hk)).mono ?_
          rintro e w' ⟨rfl, hb'⟩
          exact hK _ _ hb' rfl
        · intro ys wx hw hd K hK
          have e10 : ys 10 = _ := hd 10 (by decide)
          simp only [putL, Act.put, List.setIfInBounds_toArray, List.set_cons_zero, List.set_cons_succ, Nat.zero_add, Nat.reduceAdd, e10] at hK ⊢
          rw [if_pos (by rfl)]
          go_simp
          exact hK _ _ (Below.refl _ _) rfl
      · intro ys w' hl' hV
        have e11 : ys 11 = _ := hV 11 (by decide)
        clear hV
        simp only [putL, Act.put, List.setIfInBounds_toArray, List.set_cons_zero, List.set_cons_succ, Nat.zero_add, Nat.reduceAdd, e11]
        clear e11
        rename_i w'
        have hbe := HLW.out.trans (hl'.mono HLW.out.size)
        have hbw := hB.trans (hbe.mono hB.size)
        clear hl'
        by_cases hrr : ra = rb
        · subst hrr
          rw [beq_self_eq_true]
          go_wp2
          go_roundw
          case rel => exact ⟨k + 1, by omega, by go_num, fun j hj => by rcases Nat.lt_succ_iff_lt_or_eq.1 hj with h | rfl; exact HP.out j h; rw [HRA.out.1, HRA.out.2], hbe⟩
          case measure => simp [intOf]; omega
        · have he : (ra == rb) = false := by simpa using hrr
          have hne : (a.disks == b.disks) = false := by
            simp only [beq_eq_false_iff_ne, ne_eq]
            intro e
            apply hrr
            rw [← HRA.out.1, ← HRA.out.2, e]
          have HNE := Lib.hid hne
          rw [he]
          clear he hrr hne
          go_wp2
          go_ret
          exact ⟨by rw [HNE.out]; rfl, hbw⟩
    · obtain rfl : k = 4 := by omega
      have he : (a.disks == b.disks) = true := by
        simp only [beq_iff_eq]
        exact rows_eq HS.out.1.1 HS.out.2.1 HP.out
      have HE := Lib.hid he
      have hbw := hB.trans (hlw.mono hB.size)
      clear he hlw hk hlt hD hD2
      go_wp2_with fail
      go_loopw [45] (fun i wx => i = .int .i64 0 ∧ Below w.heap.size w wx) (fun _ _ => 0)
      case atStart => exact ⟨rfl, hbw⟩
      case round =>
        obtain ⟨rfl, hbz⟩ := hrel
        go_wp2
        go_ret
        exact ⟨by rw [HE.out]; rfl, hbz⟩
end Go.Proofs.Ytoendmbgfbhidaa

namespace Go.Proofs.Ytoendmbgfbhidaa.M
set_option linter.unusedVariables false
open Go Go.RowKit Go.ChangeShapes Go.WideShapes Go.Deep

section
variable {H : Type} {enc : TypeId × Value → H} {P : Program} {w : World} {base : Nat} {spare : Nat → Bool} {held : Bool}

theorem list_of_fn {α : Type} {n : Nat} {p : Nat → α → Prop} (h : ∀ i, i < n → ∃ x, p i x) : ∃ l : List α, l.length = n ∧ ∀ i x, l[i]? = some x → p i x := by
  induction n with
  | zero => exact ⟨[], rfl, fun i x hx => by simp at hx⟩
  | succ n ih =>
    obtain ⟨l, hl, hp⟩ := ih fun i hi => h i (by omega)
    obtain ⟨x, hx⟩ := h n (by omega)
    refine ⟨l ++ [x], by simp [hl], fun i y hy => ?_⟩
    by_cases hi : i < n
    · rw [List.getElem?_append_left (by omega)] at hy
      exact hp i y hy
    · have hi' : i = n := by
        have := (List.getElem?_eq_some_iff.1 hy).1
        simp at this
        omega
      subst hi'
      rw [List.getElem?_append_right (by omega)] at hy
      simp [hl] at hy
      subst hy
      exact hx

/-- How long the datum says that the slice is. -/
def DLen (d : DataW H) (n : Nat) : Prop := (d = .nil ∧ n = 0) ∨ ∃ elems sp, d = .slice elems sp ∧ elems.length = n

theorem open_RdL {α : Type} {R : Rel α} {t e : TypeId} (ht : P.underlying t = some (.slice e)) (hc : P.cellsOf e = 1)
    (hR : ∀ fuel v x, DataW.trod enc P w base spare held fuel e [v] = some x → ∃ y, R w (fun _ => True) v y)
    {fuel : Nat} {v : Value} {x : DataW H × List MemPlace} (h : DataW.trod enc P w base spare held fuel t [v] = some x) :
    ∃ ys, RdL R w (fun _ => True) v ys ∧ DLen x.1 ys.length := by
  rcases open_slice1 ht hc h with ⟨hcs, rfl⟩ | ⟨a, len, cap, m, n, V, D, Pl, hcs, _, hl, hm, hmm, rfl, hi⟩
  · obtain rfl : v = .slice none 0 0 := by simpa using hcs
    exact ⟨[], RdL.nil_ R w _ none 0 (by simp [maxLen]), .inl ⟨rfl, rfl⟩⟩
  · obtain rfl : v = .slice (some a) len cap := by simpa using hcs
    have hlm : len ≤ m := by rw [hmm]; split <;> omega
    obtain ⟨ys, hyl, hy⟩ := list_of_fn (n := len) (p := fun i y => R w (fun _ => True) (V i) y) fun i hi' => by
      obtain ⟨_, ht'⟩ := hi i (by omega)
      exact hR _ _ _ ht'
    refine ⟨ys, ⟨(List.range len).map V, ⟨some a, cap, by simp, by simpa using hl, hm, fun hn => ?_⟩, by simp [hyl], fun j u y hu hyj => ?_⟩, .inr ⟨_, _, rfl, by simp [hyl]⟩⟩
    · simp at hn
      obtain ⟨b, off, spot⟩ := a
      have hc0 := (hi 0 (by omega)).1
      have hspot : spot = none := by simpa [Addr.add] using World.cell?_spot hc0
      subst hspot
      refine ⟨b, off, rfl, trivial, fun j u hu => ?_⟩
      have hj : j < len := by have := (List.getElem?_eq_some_iff.1 hu).1; simpa using this
      have hcj := (hi j (by omega)).1
      have hadd : (⟨b, off, none⟩ : Addr).add j = ⟨b, off + j, none⟩ := by unfold Addr.add; split <;> simp_all
      rw [hadd] at hcj
      simp [hj] at hu
      subst hu
      exact hcj
    · have hj : j < len := by have := (List.getElem?_eq_some_iff.1 hu).1; simpa using this
      simp [hj] at hu
      subst hu
      exact hy j y hyj
theorem open_R8 {e : TypeId} (he : P.underlying e = some (.int .u8)) {fuel : Nat} {v : Value} {x : DataW H × List MemPlace} (h : DataW.trod enc P w base spare held fuel e [v] = some x) : ∃ c, R8 w (fun _ => True) v c := by
  obtain ⟨n, hv, _, hw⟩ := DataW.trod_int he h
  obtain rfl : v = .int .u8 n := by simpa using hv
  have hb := bounds_u8 hw
  refine ⟨UInt8.ofNat n.toNat, ?_⟩
  unfold R8 B8
  rw [UInt8.toNat_ofNat']
  congr 1
  omega
theorem open_RI {e : TypeId} (he : P.underlying e = some (.int .i64)) {fuel : Nat} {v : Value} {x : DataW H × List MemPlace} (h : DataW.trod enc P w base spare held fuel e [v] = some x) : ∃ c, RI w (fun _ => True) v c := by
  obtain ⟨n, hv, _, _⟩ := DataW.trod_int he h
  exact ⟨n, by simpa [RI] using hv⟩
theorem open_B {t e : TypeId} (ht : P.underlying t = some (.slice e)) (he : P.underlying e = some (.int .u8)) (hc : P.cellsOf e = 1) {fuel : Nat} {v : Value} {x : DataW H × List MemPlace} (h : DataW.trod enc P w base spare held fuel t [v] = some x) :
    ∃ b : Bs, RdB w (fun _ => True) v b ∧ DLen x.1 b.length := open_RdL ht hc (fun _ _ _ h => open_R8 he h) h
theorem open_BB {t t' e : TypeId} (ht : P.underlying t = some (.slice t')) (hc' : P.cellsOf t' = 1) (ht' : P.underlying t' = some (.slice e)) (he : P.underlying e = some (.int .u8)) (hc : P.cellsOf e = 1) {fuel : Nat} {v : Value} {x : DataW H × List MemPlace} (h : DataW.trod enc P w base spare held fuel t [v] = some x) :
    ∃ b : List Bs, RdBB w (fun _ => True) v b ∧ DLen x.1 b.length := open_RdL ht hc' (fun _ _ _ h => let ⟨b, hb, _⟩ := open_B ht' he hc h; ⟨b, hb⟩) h
end
end Go.Proofs.Ytoendmbgfbhidaa.M

namespace Go.Proofs.Ytoendmbgfbhidaa
set_option linter.unusedVariables false
open Go Go.RowKit Go.ChangeShapes Go.WideShapes Go.Deep Go.Joins M
section
variable {H : Type} {enc : TypeId × Value → H} {w : World} {base : Nat} {spare : Nat → Bool} {held : Bool}
theorem open_int1 {t : TypeId} (ht : Try.prog.underlying t = some (.int .i64)) {fuel : Nat} {v : Value} {x : DataW H × List MemPlace} (h : DataW.trod enc Try.prog w base spare held fuel t [v] = some x) : ∃ n : Int, v = .int .i64 n := by
  obtain ⟨n, hv, _, _⟩ := DataW.trod_int ht h
  exact ⟨n, by simpa using hv⟩
set_option maxRecDepth 100000 in
theorem open_deed {r : Reach} {b0 : Nat} {v : Value} {d : DataW H} {p : List MemPlace} (hv : Value.okWide Try.prog w r b0 25 v) (h : DataW.Trod enc Try.prog w base spare held 25 v d p) : ∃ dd : Deed, RdD w (fun _ => True) v dd := by
  obtain ⟨v0, v1, v2, v3, y0, y1, y2, y3, n, rfl, _, _, h0, h1, h2, h3⟩ := open_agg4 Try.underlying25 (by kernel_rfl) (by kernel_rfl) hv h
  obtain ⟨a0, rfl⟩ := open_int1 Try.underlying3 h0
  obtain ⟨a1, rfl⟩ := open_int1 Try.underlying3 h1
  obtain ⟨a2, rfl⟩ := open_int1 Try.underlying3 h2
  obtain ⟨b, hb, _⟩ := M.open_B Try.underlying23 Try.underlying5 (by kernel_rfl) h3
  exact ⟨⟨a0, a1, a2, b⟩, _, rfl, hb⟩
end
end Go.Proofs.Ytoendmbgfbhidaa

namespace Go.Proofs.Ytoendmbgfbhidaa
set_option linter.unusedVariables false
open Go Go.RowKit Go.ChangeShapes Go.WideShapes Go.Deep Go.Joins M
section
variable {H : Type} {enc : TypeId × Value → H} {w : World} {base : Nat} {spare : Nat → Bool} {held : Bool}
theorem open_int2 {t : TypeId} (ht : Try.prog.underlying t = some (.int .i64)) {fuel : Nat} {v : Value} {x : DataW H × List MemPlace} (h : DataW.trod enc Try.prog w base spare held fuel t [v] = some x) : ∃ n : Int, v = .int .i64 n ∧ n ≤ 9223372036854775807 := by
  obtain ⟨n, hv, _, hw⟩ := DataW.trod_int ht h
  have hb := bounds_i64 hw
  exact ⟨n, by simpa using hv, by omega⟩
theorem list7 {α : Type} {l : List α} (h : l.length = 7) : ∃ a b c d e f g, l = [a, b, c, d, e, f, g] := by
  match l, h with
  | [a, b, c, d, e, f, g], _ => exact ⟨a, b, c, d, e, f, g, rfl⟩
set_option maxRecDepth 100000 in
theorem open_step {fuel : Nat} {cs : List Value} {x : DataW H × List MemPlace} (h : DataW.trod enc Try.prog w base spare held fuel 68 cs = some x) :
    ∃ (s : Step) (u : Value), cs = [.int .i64 s.kind, .int .i64 s.n, .int .i64 s.m, .int .i64 s.deed.kind, .int .i64 s.deed.n, .int .i64 s.deed.m, u] ∧ s.n ≤ 9223372036854775807 ∧ RdB w (fun _ => True) u s.deed.data := by
  obtain ⟨y0, y1, y2, y3, n, _, hl, h0, h1, h2, h3⟩ := trod_struct4 Try.underlying68 h
  rw [show Try.prog.cellsOf 68 = 7 by kernel_rfl] at hl
  obtain ⟨c0, c1, c2, c3, c4, c5, c6, rfl⟩ := list7 hl
  rw [show Try.prog.cellsOf 3 = 1 by kernel_rfl] at h0 h1 h2
  rw [show Try.prog.cellsOf 25 = 4 by kernel_rfl] at h3
  simp at h0 h1 h2 h3
  obtain ⟨a0, rfl, _⟩ := open_int2 Try.underlying3 h0
  obtain ⟨a1, rfl, hb1⟩ := open_int2 Try.underlying3 h1
  obtain ⟨a2, rfl, _⟩ := open_int2 Try.underlying3 h2
  obtain ⟨z0, z1, z2, z3, n', _, _, g0, g1, g2, g3⟩ := trod_struct4 Try.underlying25 h3
  rw [show Try.prog.cellsOf 3 = 1 by kernel_rfl] at g0 g1 g2
  rw [show Try.prog.cellsOf 23 = 1 by kernel_rfl] at g3
  simp at g0 g1 g2 g3
  obtain ⟨a3, rfl, _⟩ := open_int2 Try.underlying3 g0
  obtain ⟨a4, rfl, _⟩ := open_int2 Try.underlying3 g1
  obtain ⟨a5, rfl, _⟩ := open_int2 Try.underlying3 g2
  obtain ⟨b, hb, _⟩ := M.open_B Try.underlying23 Try.underlying5 (by kernel_rfl) g3
  exact ⟨⟨a0, a1, a2, ⟨a3, a4, a5, b⟩⟩, c6, rfl, hb1, hb⟩
set_option maxRecDepth 100000 in
theorem open_steps {fuel : Nat} {v : Value} {x : DataW H × List MemPlace} (h : DataW.trod enc Try.prog w base spare held fuel 22 [v] = some x) :
    ∃ l : List Step, RdSts w (fun _ => True) v l ∧ DLen x.1 l.length := by
  rcases open_slice Try.underlying22 h with ⟨hcs, rfl⟩ | ⟨a, len, cap, m, n, D, Pl, hcs, _, hl, hm, hmm, rfl, hi⟩
  · obtain rfl : v = .slice none 0 0 := by simpa using hcs
    exact ⟨[], ⟨none, 0, rfl, Nat.le_refl _, by simp [maxLen], fun j s hs => by simp at hs⟩, .inl ⟨rfl, rfl⟩⟩
  · obtain rfl : v = .slice (some a) len cap := by simpa using hcs
    have hlm : len ≤ m := by rw [hmm]; split <;> omega
    rw [show Try.prog.cellsOf 68 = 7 by kernel_rfl] at hi
    obtain ⟨l, hyl, hy⟩ := list_of_fn (n := len) (p := fun i (s : Step) => ∃ u, w.cells? base (a.add (i * 7)) 7 = some [.int .i64 s.kind, .int .i64 s.n, .int .i64 s.m, .int .i64 s.deed.kind, .int .i64 s.deed.n, .int .i64 s.deed.m, u] ∧ s.n ≤ 9223372036854775807 ∧ RdB w (fun _ => True) u s.deed.data) fun i hi' => by
      obtain ⟨cs', hc, ht'⟩ := hi i (by omega)
      obtain ⟨s, u, rfl, h1, h2⟩ := open_step ht'
      exact ⟨s, u, hc, h1, h2⟩
    refine ⟨l, ⟨some a, cap, by rw [hyl], by omega, hm, fun j s hs => ?_⟩, .inr ⟨_, _, rfl, by simp [hyl]⟩⟩
    obtain ⟨u, hc, h1, h2⟩ := hy j s hs
    obtain ⟨_, hcl, hat⟩ := World.cells?_some hc
    obtain ⟨b, off, spot⟩ := a
    have hj : j < l.length := (List.getElem?_eq_some_iff.1 hs).1
    obtain ⟨u0, hc00, _, _⟩ := hy 0 (l[0]'(by omega)) (List.getElem?_eq_getElem _)
    have hc0 := (World.cells?_some hc00).2.2 0 (by decide)
    have hspot : spot = none := by simpa [Addr.add] using World.cell?_spot hc0
    subst hspot
    have hadd1 : ∀ o i, (⟨b, o, none⟩ : Addr).add i = ⟨b, o + i, none⟩ := fun o i => by unfold Addr.add; split <;> simp_all
    have hadd : ∀ i, ((⟨b, off, none⟩ : Addr).add (j * 7)).add i = ⟨b, off + j * 7 + i, none⟩ := fun i => by rw [hadd1, hadd1]
    refine ⟨b, off, rfl, trivial, ?_, ?_, ?_, ?_, ?_, ?_, ?_, h1, u, ?_, h2⟩
    · have := hat 0 (by decide)
      rw [hadd] at this
      exact World.block_lt_of_cell? w ⟨b, off + j * 7 + 0, none⟩ this
    · have := hat 0 (by decide); rw [hadd] at this; exact this
    · have := hat 1 (by decide); rw [hadd] at this; exact this
    · have := hat 2 (by decide); rw [hadd] at this; exact this
    · have := hat 3 (by decide); rw [hadd] at this; exact this
    · have := hat 4 (by decide); rw [hadd] at this; exact this
    · have := hat 5 (by decide); rw [hadd] at this; exact this
    · have := hat 6 (by decide); rw [hadd] at this; exact this
end
end Go.Proofs.Ytoendmbgfbhidaa

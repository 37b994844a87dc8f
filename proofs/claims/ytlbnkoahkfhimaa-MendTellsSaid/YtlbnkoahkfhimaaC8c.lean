/- Chapters 9, 10: what the reference's Gone, Rot, Mend compute. -/
import Derived.Test.YtlbnkoahkfhimaaC8b
namespace Go.Proofs.Ytlbnkoahkfhimaa
set_option linter.unusedVariables false
open Go Go.RowKit M
theorem gone_out {a : Arr} {d : Int} (h : d < 0 ∨ 4 ≤ d) : goneA a d = (a, 6) := by unfold goneA; rw [if_pos h]
theorem gone_in {a : Arr} {d : Nat} (h : d < 4) : goneA a (d : Nat) = (⟨a.disks.set d [[], [], []], a.ints⟩, 0) := by unfold goneA; rw [if_neg (by omega)]; simp
/-- A disk's cells, so many of them none. -/
def goneTo (D : List (List Bs)) (d k : Nat) : List (List Bs) := (List.range k).foldl (fun D s => setA D d s []) D
theorem goneTo_next (D : List (List Bs)) (d k : Nat) : goneTo D d (k + 1) = setA (goneTo D d k) d k [] := by unfold goneTo; rw [List.range_succ]; simp
theorem goneTo_shape {D : List (List Bs)} (h : Shape D) (d k : Nat) : Shape (goneTo D d k) := by
  induction k with
  | zero => exact h
  | succ k ih => rw [goneTo_next]; exact shape_set ih d k (by simp)
theorem goneTo_all {D : List (List Bs)} (h : Shape D) {d : Nat} (hd : d < 4) : goneTo D d 3 = D.set d [[], [], []] := by
  obtain ⟨r, h1, h2, _, h4⟩ := h.row hd
  have hl : d < D.length := by rw [h.1]; exact hd
  match r, h2 with
  | [x, y, z], _ =>
    show setA (setA (setA D d 0 []) d 1 []) d 2 [] = _
    unfold setA
    simp only [List.getD, List.getElem?_set_self hl, Option.getD_some, List.set_set, h1]
    rfl
set_option maxRecDepth 100000 in
set_option maxHeartbeats 800000 in
theorem ref_Gone (a : Arr) (d : Int) (v : Value) (F : Fp) (w : World) (h : RdA w F v a) (hsh : Shape a.disks) :
    Calls Try.prog 41 #[v, .int .i64 d] w fun e w' => ∃ v', e = .returned (.tuple #[v', .int .i64 (goneA a d).2]) ∧ RdA w' (fun k => F k ∨ w.heap.size ≤ k) v' (goneA a d).1 ∧ Below w.heap.size w w' := by
  obtain ⟨b0, o0, c0, Ai, ci, rfl, hD, hI, hc0, hc1⟩ := RdA_open h hsh
  obtain ⟨hA, hR, hB, hsz⟩ := two_boxes w (.slice (some ⟨b0, o0, none⟩) 4 c0) (.slice Ai a.ints.length ci) 41
  obtain ⟨x0, x1, x2, x3⟩ := hA.two
  obtain ⟨y0, y1, y2, y3⟩ := hR.two
  by_cases hd : d < 0 ∨ 4 ≤ d
  · have hB0 := below_alloc w (.cells #[.slice (some ⟨b0, o0, none⟩) 4 c0, .slice Ai a.ints.length ci] 41)
    have hB2 := hB0.trans ((below_alloc (w.alloc (.cells #[.slice (some ⟨b0, o0, none⟩) 4 c0, .slice Ai a.ints.length ci] 41)) (.cells #[.slice (some ⟨b0, o0, none⟩) 4 c0, .slice Ai a.ints.length ci] 41)).mono hB0.size)
    have hA2 : RdA _ (fun k => F k ∨ w.heap.size ≤ k) _ a := RdA.mono (F := fun k => F k ∧ k < w.heap.size) ⟨_, _, rfl, okBBB.grow hD hB2, okIs.grow hI hB2⟩ fun k hk => .inl hk.1
    have HA2 := Lib.hid hA2
    have HB2 := Lib.hid hB2
    rw [gone_out hd]
    clear hA2 hB2 h hD hI hA hR hB hsz
    rcases hd with hd | hd
    · go_enter Try.func41, Try.ntmps41
      go_wp2
      exact bodyPost_ret (v := .tuple #[.agg #[.slice (some ⟨b0, o0, none⟩) 4 c0, .slice Ai a.ints.length ci], .int .i64 6]) (by simp [results, Try.results41, go_sem, *]) rfl ⟨_, rfl, HA2.out, HB2.out⟩
    · go_enter Try.func41, Try.ntmps41
      go_wp2
      exact bodyPost_ret (v := .tuple #[.agg #[.slice (some ⟨b0, o0, none⟩) 4 c0, .slice Ai a.ints.length ci], .int .i64 6]) (by simp [results, Try.results41, go_sem, *]) rfl ⟨_, rfl, HA2.out, HB2.out⟩
  · obtain ⟨d, rfl⟩ := Int.eq_ofNat_of_zero_le (show 0 ≤ d by omega)
    have hd4 : d < 4 := by omega
    rw [gone_in hd4, ← goneTo_all hsh hd4]
    have HS := Lib.hid hsh
    clear hd hsh h
    go_enter Try.func41, Try.ntmps41
    go_wp2_with fail
    generalize (w.alloc (.cells #[.slice (some ⟨b0, o0, none⟩) 4 c0, .slice Ai a.ints.length ci] 41)).alloc (.cells #[.slice none 0 0, .slice none 0 0] 41) = w1 at *
    have HSZ := Lib.hid hsz
    clear x0 x1 x2 x3 y0 y1 y2 y3 hsz
    go_loopw [14] (fun i wr => ∃ k : Nat, k ≤ 3 ∧ i = .int .i64 k ∧ (∃ dv iv, BoxAt wr w.heap.size 41 [dv, iv] ∧ RdA wr (fun k => F k ∧ k < w.heap.size ∨ w.heap.size + 2 ≤ k) (.agg #[dv, iv]) ⟨goneTo a.disks d k, a.ints⟩) ∧ BoxAt wr (w.heap.size + 1) 41 [.slice none 0 0, .slice none 0 0] ∧ Below w.heap.size w wr ∧ w.heap.size + 2 ≤ wr.heap.size) (fun i _ => 3 - (intOf i).toNat)
    case atStart => exact ⟨0, Nat.zero_le _, rfl, ⟨_, _, hA, ⟨_, _, rfl, okBBB.mono (okBBB.grow hD hB) fun _ hk => .inl hk, okIs.mono (okIs.grow hI hB) fun _ hk => .inl hk⟩⟩, hR, hB, by rw [HSZ.out]; exact Nat.le_refl _⟩
    case round =>
      obtain ⟨k, hk, rfl, ⟨dv, iv, hA1, hR1⟩, hRb, hBw, hsw⟩ := hrel
      by_cases hlt : k < 3
      · have hsk := goneTo_shape HS.out d k
        obtain ⟨b1, o1, c1, A1, c2, hag, _, _, _, _⟩ := RdA_open hR1 hsk
        injection hag with hag
        simp only [Array.mk.injEq, List.cons.injEq, and_true] at hag
        obtain ⟨rfl, rfl⟩ := hag
        obtain ⟨x0, x1, x2, x3⟩ := hA1.two
        have HN := Lib.hid (goneTo_next a.disks d k)
        have hnil : RdB wr (fun _ => False) (.slice none 0 0) [] := RdL.nil_ _ _ _ _ _ (by decide)
        go_wp2_with fail
        refine (ref_with ⟨goneTo a.disks d k, a.ints⟩ d k [] _ _ _ _ hR1 (okB.mono hnil fun _ hk => hk.elim) hsk hd4 hlt).mono ?_
        rintro e w2 ⟨v2, rfl, hr2, hb2⟩
        have hsh2 : Shape (setA (goneTo a.disks d k) d k []) := shape_set hsk d k (by simp)
        obtain ⟨b3, o3, c3, A3, c4, rfl, _, _, _, _⟩ := RdA_open hr2 hsh2
        have hA2 := hA1.grow hb2
        have hRb2 := hRb.grow hb2
        obtain ⟨z0, z1, z2, z3⟩ := hA2.two
        have hA3 : BoxAt (set2 w2 w.heap.size (.slice (some ⟨b3, o3, none⟩) 4 c3) (.slice A3 a.ints.length c4)) _ _ _ := hA2.put2
        have hRb3 : BoxAt (set2 w2 w.heap.size (.slice (some ⟨b3, o3, none⟩) 4 c3) (.slice A3 a.ints.length c4)) _ _ _ := hRb2.far2 (by omega)
        have hr3 : RdA (set2 w2 w.heap.size (.slice (some ⟨b3, o3, none⟩) 4 c3) (.slice A3 a.ints.length c4)) _ _ _ := hr2.set2 (b := w.heap.size) fun k hk => by rcases hk with (hk | hk) | hk <;> omega
        have hb3 := (hBw.trans (hb2.mono hBw.size)).trans (below_set2 (b := w.heap.size) (v0 := .slice (some ⟨b3, o3, none⟩) 4 c3) (v1 := .slice A3 a.ints.length c4) (Nat.le_refl _))
        have hs3 : w.heap.size + 2 ≤ (set2 w2 w.heap.size (.slice (some ⟨b3, o3, none⟩) 4 c3) (.slice A3 a.ints.length c4)).heap.size := by rw [set2_size]; have := hb2.size; omega
        have H := Lib.hid (And.intro hA3 (And.intro hr3 (And.intro hRb3 (And.intro hb3 hs3))))
        clear hA3 hr3 hRb3 hb3 hs3 hr2 hb2 hA2 hRb2 hR1 hA1 hRb hBw x0 x1 x2 x3
        go_wp2_with fail
        go_roundw
        case rel => exact ⟨k + 1, by omega, by go_num, ⟨_, _, H.out.1, by rw [HN.out]; exact H.out.2.1.mono fun k hk => hk.elim id fun h => .inr (by omega)⟩, H.out.2.2.1, H.out.2.2.2.1, H.out.2.2.2.2⟩
        case measure => simp [intOf]; omega
      · obtain rfl : k = 3 := by omega
        have hsk := goneTo_shape HS.out d 3
        obtain ⟨b1, o1, c1, A1, c2, hag, _, _, _, _⟩ := RdA_open hR1 hsk
        injection hag with hag
        simp only [Array.mk.injEq, List.cons.injEq, and_true] at hag
        obtain ⟨rfl, rfl⟩ := hag
        obtain ⟨x0, x1, x2, x3⟩ := hA1.two
        obtain ⟨y0, y1, y2, y3⟩ := hRb.two
        have hr3 : RdA (set2 wr (w.heap.size + 1) (.slice (some ⟨b1, o1, none⟩) 4 c1) (.slice A1 a.ints.length c2)) _ _ _ := hR1.set2 (b := w.heap.size + 1) fun k hk => by omega
        have hb3 := hBw.trans (below_set2 (b := w.heap.size + 1) (v0 := .slice (some ⟨b1, o1, none⟩) 4 c1) (v1 := .slice A1 a.ints.length c2) (Nat.le_succ _))
        have H := Lib.hid (And.intro hr3 hb3)
        clear hr3 hb3 hR1 hA1 hRb hBw
        go_wp2_with fail
        exact bodyPost_ret (v := .tuple #[.agg #[.slice (some ⟨b1, o1, none⟩) 4 c1, .slice A1 a.ints.length c2], .int .i64 0]) (by simp [results, Try.results41, go_sem, *]) rfl ⟨_, rfl, H.out.1.mono fun k hk => hk.elim (fun h => .inl h.1) fun h => .inr (by omega), H.out.2⟩
end Go.Proofs.Ytlbnkoahkfhimaa

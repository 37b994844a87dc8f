/- Chapter 8: what the reference's Mount and Do compute. -/
import Derived.Test.YtlbnkoahkfhimaaC8f
namespace Go.Proofs.Ytlbnkoahkfhimaa
set_option linter.unusedVariables false
open Go Go.RowKit M
/-- What an intent may be: a stripe's number, four cells. -/
def IntOk (i : Int × List Bs) : Prop := i.1 = ((i.1.toNat : Nat) : Int) ∧ i.1.toNat < 3 ∧ i.2.length = 4 ∧ ∀ c ∈ i.2, c.length ≤ 8
theorem mountTo_next {a : Arr} {k : Nat} {i : Int × List Bs} (h : a.ints[k]? = some i) : mountTo a (k + 1) = writeR (mountTo a k) i 6 := by
  have hl := (List.getElem?_eq_some_iff.1 h).1
  have he := (List.getElem?_eq_some_iff.1 h).2
  unfold mountTo
  rw [List.take_succ_eq_append_getElem hl, List.foldl_append, he]
  rfl
theorem mountTo_shape {a : Arr} (h : Shape a.disks) (hi : ∀ i ∈ a.ints, IntOk i) (k : Nat) : Shape (mountTo a k).disks := by
  unfold mountTo
  have : ∀ (l : List (Int × List Bs)) (b : Arr), Shape b.disks → (∀ i ∈ l, IntOk i) → Shape (l.foldl (fun x i => writeA x i 6) b).disks := by
    intro l
    induction l with
    | nil => intro b hb _; exact hb
    | cons i l ih =>
      intro b hb hl
      exact ih _ (putTo_shape hb _ (hl i List.mem_cons_self).2.2.2 4) fun j hj => hl j (List.mem_cons_of_mem _ hj)
  exact this _ _ h fun i hm => hi i (List.mem_of_mem_take hm)
set_option maxRecDepth 100000 in
set_option maxHeartbeats 1600000 in
theorem ref_Mount (a : Arr) (v : Value) (F : Fp) (w : World) (h : RdA w F v a) (hsh : Shape a.disks) (hi : ∀ i ∈ a.ints, IntOk i) (hn : a.ints.length ≤ 100) :
    Calls Try.prog 72 #[v] w fun e w' => ∃ v', e = .returned v' ∧ RdA w' (fun k => F k ∨ w.heap.size ≤ k) v' (mountA a) ∧ Below w.heap.size w w' := by
  obtain ⟨b0, o0, c0, Ai, ci, rfl, hD, hI, hc0, hc1⟩ := RdA_open h hsh
  obtain ⟨hA, hR, hB, hsz⟩ := two_boxes w (.slice (some ⟨b0, o0, none⟩) 4 c0) (.slice Ai a.ints.length ci) 41
  have HSZ := Lib.hid hsz
  have HS := Lib.hid hsh
  have HI := Lib.hid hi
  clear hsz hsh hi h
  obtain ⟨x0, x1, x2, x3⟩ := hA.two
  go_enter Try.func72, Try.ntmps72
  go_wp2_with fail
  generalize (w.alloc (.cells #[.slice (some ⟨b0, o0, none⟩) 4 c0, .slice Ai a.ints.length ci] 41)).alloc (.cells #[.slice none 0 0, .slice none 0 0] 41) = w1 at *
  clear x0 x1 x2 x3
  have hA1 : RdA w1 (fun k => F k ∧ k < w.heap.size ∨ w.heap.size + 2 ≤ k) (.agg #[.slice (some ⟨b0, o0, none⟩) 4 c0, .slice Ai a.ints.length ci]) a := ⟨_, _, rfl, okBBB.mono (okBBB.grow hD hB) fun _ hk => .inl hk, okIs.mono (okIs.grow hI hB) fun _ hk => .inl hk⟩
  go_loopw [8] (fun i wr => ∃ k : Nat, k ≤ a.ints.length ∧ i = .int .i64 k ∧ (∃ dv iv, BoxAt wr w.heap.size 41 [dv, iv] ∧ RdA wr (fun k => F k ∧ k < w.heap.size ∨ w.heap.size + 2 ≤ k) (.agg #[dv, iv]) (mountTo a k)) ∧ BoxAt wr (w.heap.size + 1) 41 [.slice none 0 0, .slice none 0 0] ∧ Below w.heap.size w wr ∧ w.heap.size + 2 ≤ wr.heap.size) (fun i _ => a.ints.length - (intOf i).toNat)
  case atStart => exact ⟨0, Nat.zero_le _, rfl, ⟨_, _, hA, hA1⟩, hR, hB, by rw [HSZ.out]; exact Nat.le_refl _⟩
  case round =>
    obtain ⟨k, hk, rfl, ⟨dv, iv, hA2, hR2⟩, hZ2, hB2, hs2⟩ := hrel
    have hskm := mountTo_shape HS.out HI.out k
    obtain ⟨b1, o1, c1, A1, c2, hag, _, _, hc11, hc12⟩ := RdA_open hR2 hskm
    injection hag with hag
    simp only [Array.mk.injEq, List.cons.injEq, and_true] at hag
    obtain ⟨rfl, rfl⟩ := hag
    obtain ⟨x0, x1, x2, x3⟩ := hA2.two
    by_cases hlt : k < a.ints.length
    · obtain ⟨i, hik⟩ : ∃ i, a.ints[k]? = some i := ⟨_, List.getElem?_eq_getElem hlt⟩
      obtain ⟨bi, oi, cc, u, hag, _, hcm, g0, g1, gR⟩ := (okIs.grow hI hB2).q hik
      injection hag with e1 e2 e3
      subst e1; subst e3
      unfold maxLen at hcm
      have hok := HI.out i (List.mem_of_getElem? hik)
      obtain ⟨A4, c4, rfl, _, _⟩ := gR.shape
      have hlen4 := hok.2.2.1
      rw [hlen4] at g1 gR
      have hal := below_alloc wr (.cells #[.int .i64 i.1, .slice A4 4 c4] 88)
      have hAl := hA2.alloc (.cells #[.int .i64 i.1, .slice A4 4 c4] 88)
      obtain ⟨p0, p1, p2, p3⟩ := hAl.two
      have HN := Lib.hid (mountTo_next hik)
      have HOK := Lib.hid hok
      have HSK := Lib.hid hskm
      have HR := Lib.hid (And.intro (hR2.grow hal) (okBB.grow gR hal))
      have H1 := Lib.hid (And.intro hAl (And.intro (hZ2.alloc (.cells #[.int .i64 i.1, .slice A4 4 c4] 88)) (And.intro (hB2.trans (hal.mono hB2.size)) (Nat.le_trans hs2 hal.size))))
      clear hok hal hAl hA2 hR2 hZ2 hB2 hs2 gR hik hskm hlen4
      go_wp2_with fail
      refine (ref_Write (mountTo a k) i 6 _ _ _ _ HR.out.1 ⟨_, rfl, okBB.mono HR.out.2 fun k hk => .inl hk⟩ HSK.out HOK.out.1 HOK.out.2.1 HOK.out.2.2.1 HOK.out.2.2.2).mono ?_
      rintro e w2 ⟨v2, rfl, hr2, hb2⟩
      rw [← HN.out] at hr2
      have hsh2 := mountTo_shape HS.out HI.out (k + 1)
      obtain ⟨b3, o3, c3, A3, c5, rfl, _, _, _, _⟩ := RdA_open hr2 hsh2
      have hA2 := H1.out.1.grow hb2
      have hZ2 := H1.out.2.1.grow hb2
      obtain ⟨z0, z1, z2, z3⟩ := hA2.two
      have hA3 : BoxAt (set2 w2 w.heap.size (.slice (some ⟨b3, o3, none⟩) 4 c3) (.slice A3 (mountTo a (k + 1)).ints.length c5)) _ _ _ := hA2.put2
      have hZ3 : BoxAt (set2 w2 w.heap.size (.slice (some ⟨b3, o3, none⟩) 4 c3) (.slice A3 (mountTo a (k + 1)).ints.length c5)) _ _ _ := hZ2.far2 (by omega)
      have hr3 : RdA (set2 w2 w.heap.size (.slice (some ⟨b3, o3, none⟩) 4 c3) (.slice A3 (mountTo a (k + 1)).ints.length c5)) _ _ _ := hr2.set2 (b := w.heap.size) fun k hk => by have := H1.out.2.2.2; rcases hk with (hk | hk) | hk <;> omega
      have hb3 := (H1.out.2.2.1.trans (hb2.mono H1.out.2.2.1.size)).trans (below_set2 (b := w.heap.size) (v0 := .slice (some ⟨b3, o3, none⟩) 4 c3) (v1 := .slice A3 (mountTo a (k + 1)).ints.length c5) (Nat.le_refl _))
      have hs3 : w.heap.size + 2 ≤ (set2 w2 w.heap.size (.slice (some ⟨b3, o3, none⟩) 4 c3) (.slice A3 (mountTo a (k + 1)).ints.length c5)).heap.size := by rw [set2_size]; exact Nat.le_trans H1.out.2.2.2 hb2.size
      have H := Lib.hid (And.intro hA3 (And.intro (hr3.mono (F' := fun k => F k ∧ k < w.heap.size ∨ w.heap.size + 2 ≤ k) fun k hk => hk.elim id fun h => .inr (Nat.le_trans H1.out.2.2.2 h)) (And.intro hZ3 (And.intro hb3 hs3))))
      clear hA3 hr3 hZ3 hb3 hs3 hr2 hb2 hA2 hZ2 x0 x1 x2 x3 p0 p1 p2 p3
      go_wp2_with fail
      go_roundw
      case rel => exact ⟨k + 1, by omega, by go_num, ⟨_, _, H.out.1, H.out.2.1⟩, H.out.2.2.1, H.out.2.2.2.1, H.out.2.2.2.2⟩
      case measure => simp [intOf]; omega
    · obtain rfl : k = a.ints.length := by omega
      obtain ⟨y0, y1, y2, y3⟩ := hZ2.two
      have hr3 : RdA (set2 wr (w.heap.size + 1) (.slice (some ⟨b1, o1, none⟩) 4 c1) (.slice A1 (mountTo a a.ints.length).ints.length c2)) _ _ _ := hR2.set2 (b := w.heap.size + 1) fun k hk => by omega
      have hb3 := hB2.trans (below_set2 (b := w.heap.size + 1) (v0 := .slice (some ⟨b1, o1, none⟩) 4 c1) (v1 := .slice A1 (mountTo a a.ints.length).ints.length c2) (Nat.le_succ _))
      have H := Lib.hid (And.intro (hr3.mono (F' := fun k => F k ∨ w.heap.size ≤ k) fun k hk => hk.elim (fun h => .inl h.1) fun h => .inr (by omega)) hb3)
      clear hr3 hb3 hR2 hA2 hZ2 hB2 hskm hA1 hA hR hB
      go_wp2_with fail
      exact bodyPost_ret (v := .agg #[.slice (some ⟨b1, o1, none⟩) 4 c1, .slice A1 (mountTo a a.ints.length).ints.length c2]) (by simp [results, Try.results72, go_sem, *]) rfl ⟨_, rfl, H.out.1, H.out.2⟩
end Go.Proofs.Ytlbnkoahkfhimaa

/- Merged: C8g C8h C8i C9 C9b C9c. -/
import Derived.Test.YtoendmbgfbhidaaZe
import Derived.Test.YtoendmbgfbhidaaZc
namespace Go.Proofs.Ytoendmbgfbhidaa
set_option linter.unusedVariables false
open Go Go.RowKit M
/-- What an intent may be: a stripe's number, four cells. -/
def IntOk (i : Int × List Bs) : Prop := i.1 = ((i.1.toNat : Nat) : Int) ∧ i.1.toNat < 3 ∧ i.2.length = 4 ∧ ∀ c ∈ i.2, c.length ≤ 8
theorem mountTo_next {a : Arr} {k : Nat} {i : Int × List Bs} (h : a.ints[k]? = some i) : mountTo a (k + 1) = writeR (mountTo a k) i 6 := by
  have hl := (List.getElem?_eq_some_iff.1 h).1
  have he := (List.getElem?_eq_some_iff.1 h).2
  unfold mountTo
  rw [List.take_succ_eq_append_getElem hl, List.foldl_append, he]
  rfl
theorem mountTo_shape {a : Arr} (h : Shape a.disks) (hi : ∀ i ∈ a.ints, IntOk i) (k : Nat) : Shape (mountTo a k).disks := by
  unfold mountTo
  have : ∀ (l : List (Int × List Bs)) (b : Arr), Shape b.disks → (∀ i ∈ l, IntOk i) → Shape (l.foldl (fun x i => writeA x i 6) b).disks := by
    intro l
    induction l with
    | nil => intro b hb _; exact hb
    | cons i l ih =>
      intro b hb hl
      exact ih _ (putTo_shape hb _ (hl i List.mem_cons_self).2.2.2 4) fun j hj => hl j (List.mem_cons_of_mem _ hj)
  exact this _ _ h fun i hm => hi i (List.mem_of_mem_take hm)
set_option maxRecDepth 100000 in
set_option maxHeartbeats 1600000 in
theorem ref_Mount (a : Arr) (v : Value) (F : Fp) (w : World) (h : RdA w F v a) (hsh : Shape a.disks) (hi : ∀ i ∈ a.ints, IntOk i) (hn : a.ints.length ≤ 100) :
    Calls Try.prog 31 #[v] w fun e w' => ∃ v', e = .returned v' ∧ RdA w' (fun k => F k ∨ w.heap.size ≤ k) v' (mountA a) ∧ Below w.heap.size w w' := by
  obtain ⟨b0, o0, c0, Ai, ci, rfl, hD, hI, hc0, hc1⟩ := RdA_open h hsh
  obtain ⟨hA, hR, hB, hsz⟩ := two_boxes w (.slice (some ⟨b0, o0, none⟩) 4 c0) (.slice Ai a.ints.length ci) 30
  have HSZ := Lib.hid hsz
  have HS := Lib.hid hsh
  have HI := Lib.hid hi
  clear hsz hsh hi h
  obtain ⟨x0, x1, x2, x3⟩ := hA.two
  go_enter Try.func31, Try.ntmps31
  go_wp2_with fail
  generalize (w.alloc (.cells #[.slice (some ⟨b0, o0, none⟩) 4 c0, .slice Ai a.ints.length ci] 30)).alloc (.cells #[.slice none 0 0, .slice none 0 0] 30) = w1 at *
  clear x0 x1 x2 x3
  have hA1 : RdA w1 (fun k => F k ∧ k < w.heap.size ∨ w.heap.size + 2 ≤ k) (.agg #[.slice (some ⟨b0, o0, none⟩) 4 c0, .slice Ai a.ints.length ci]) a := ⟨_, _, rfl, okBBB.mono (okBBB.grow hD hB) fun _ hk => .inl hk, okIs.mono (okIs.grow hI hB) fun _ hk => .inl hk⟩
  go_loopw [8] (fun i wr => ∃ k : Nat, k ≤ a.ints.length ∧ i = .int .i64 k ∧ (∃ dv iv, BoxAt wr w.heap.size 30 [dv, iv] ∧ RdA wr (fun k => F k ∧ k < w.heap.size ∨ w.heap.size + 2 ≤ k) (.agg #[dv, iv]) (mountTo a k)) ∧ BoxAt wr (w.heap.size + 1) 30 [.slice none 0 0, .slice none 0 0] ∧ Below w.heap.size w wr ∧ w.heap.size + 2 ≤ wr.heap.size) (fun i _ => a.ints.length - (intOf i).toNat)
  case atStart => exact ⟨0, Nat.zero_le _, rfl, ⟨_, _, hA, hA1⟩, hR, hB, by rw [HSZ.out]; exact Nat.le_refl _⟩
  case round =>
    obtain ⟨k, hk, rfl, ⟨dv, iv, hA2, hR2⟩, hZ2, hB2, hs2⟩ := hrel
    have hskm := mountTo_shape HS.out HI.out k
    obtain ⟨b1, o1, c1, A1, c2, hag, _, _, hc11, hc12⟩ := RdA_open hR2 hskm
    injection hag with hag
    simp only [Array.mk.injEq, List.cons.injEq, and_true] at hag
    obtain ⟨rfl, rfl⟩ := hag
    obtain ⟨x0, x1, x2, x3⟩ := hA2.two
    by_cases hlt : k < a.ints.length
    · obtain ⟨i, hik⟩ : ∃ i, a.ints[k]? = some i := ⟨_, List.getElem?_eq_getElem hlt⟩
      obtain ⟨bi, oi, cc, u, hag, _, hcm, g0, g1, gR⟩ := (okIs.grow hI hB2).q hik
      injection hag with e1 e2 e3
      subst e1; subst e3
      unfold maxLen at hcm
      have hok := HI.out i (List.mem_of_getElem? hik)
      obtain ⟨A4, c4, rfl, _, _⟩ := gR.shape
      have hlen4 := hok.2.2.1
      rw [hlen4] at g1 gR
      have hal := below_alloc wr (.cells #[.int .i64 i.1, .slice A4 4 c4] 46)
      have hAl := hA2.alloc (.cells #[.int .i64 i.1, .slice A4 4 c4] 46)
      obtain ⟨p0, p1, p2, p3⟩ := hAl.two
      have HN := Lib.hid (mountTo_next hik)
      have HOK := Lib.hid hok
      have HSK := Lib.hid hskm
      have HR := Lib.hid (And.intro (hR2.grow hal) (okBB.grow gR hal))
      have H1 := Lib.hid (And.intro hAl (And.intro (hZ2.alloc (.cells #[.int .i64 i.1, .slice A4 4 c4] 46)) (And.intro (hB2.trans (hal.mono hB2.size)) (Nat.le_trans hs2 hal.size))))
      clear hok hal hAl hA2 hR2 hZ2 hB2 hs2 gR hik hskm hlen4
      go_wp2_with fail
      refine (ref_Write (mountTo a k) i 6 _ _ _ _ HR.out.1 ⟨_, rfl, okBB.mono HR.out.2 fun k hk => .inl hk⟩ HSK.out HOK.out.1 HOK.out.2.1 HOK.out.2.2.1 HOK.out.2.2.2).mono ?_
      rintro e w2 ⟨v2, rfl, hr2, hb2⟩
      rw [← HN.out] at hr2
      have hsh2 := mountTo_shape HS.out HI.out (k + 1)
      obtain ⟨b3, o3, c3, A3, c5, rfl, _, _, _, _⟩ := RdA_open hr2 hsh2
      have hA2 := H1.out.1.grow hb2
      have hZ2 := H1.out.2.1.grow hb2
      obtain ⟨z0, z1, z2, z3⟩ := hA2.two
      have hA3 : BoxAt (set2 w2 w.heap.size (.slice (some ⟨b3, o3, none⟩) 4 c3) (.slice A3 (mountTo a (k + 1)).ints.length c5)) _ _ _ := hA2.put2
      have hZ3 : BoxAt (set2 w2 w.heap.size (.slice (some ⟨b3, o3, none⟩) 4 c3) (.slice A3 (mountTo a (k + 1)).ints.length c5)) _ _ _ := hZ2.far2 (by omega)
      have hr3 : RdA (set2 w2 w.heap.size (.slice (some ⟨b3, o3, none⟩) 4 c3) (.slice A3 (mountTo a (k + 1)).ints.length c5)) _ _ _ := hr2.set2 (b := w.heap.size) fun k hk => by have := H1.out.2.2.2; rcases hk with (hk | hk) | hk <;> omega
      have hb3 := (H1.out.2.2.1.trans (hb2.mono H1.out.2.2.1.size)).trans (below_set2 (b := w.heap.size) (v0 := .slice (some ⟨b3, o3, none⟩) 4 c3) (v1 := .slice A3 (mountTo a (k + 1)).ints.length c5) (Nat.le_refl _))
      have hs3 : w.heap.size + 2 ≤ (set2 w2 w.heap.size (.slice (some ⟨b3, o3, none⟩) 4 c3) (.slice A3 (mountTo a (k + 1)).ints.length c5)).heap.size := by rw [set2_size]; exact Nat.le_trans H1.out.2.2.2 hb2.size
      have H := Lib.hid (And.intro hA3 (And.intro (hr3.mono (F' := fun k => F k ∧ k < w.heap.size ∨ w.heap.size + 2 ≤ k) fun k hk => hk.elim id fun h => .inr (Nat.le_trans H1.out.2.2.2 h)) (And.intro hZ3 (And.intro hb3 hs3))))
      clear hA3 hr3 hZ3 hb3 hs3 hr2 hb2 hA2 hZ2 x0 x1 x2 x3 p0 p1 p2 p3
      go_wp2_with fail
      go_roundw
      case rel => exact ⟨k + 1, by omega, by go_num, ⟨_, _, H.out.1, H.out.2.1⟩, H.out.2.2.1, H.out.2.2.2.1, H.out.2.2.2.2⟩
      case measure => simp [intOf]; omega
    · obtain rfl : k = a.ints.length := by omega
      obtain ⟨y0, y1, y2, y3⟩ := hZ2.two
      have hr3 : RdA (set2 wr (w.heap.size + 1) (.slice (some ⟨b1, o1, none⟩) 4 c1) (.slice A1 (mountTo a a.ints.length).ints.length c2)) _ _ _ := hR2.set2 (b := w.heap.size + 1) fun k hk => by omega
      have hb3 := hB2.trans (below_set2 (b := w.heap.size + 1) (v0 := .slice (some ⟨b1, o1, none⟩) 4 c1) (v1 := .slice A1 (mountTo a a.ints.length).ints.length c2) (Nat.le_succ _))
      have H := Lib.hid (And.intro (hr3.mono (F' := fun k => F k ∨ w.heap.size ≤ k) fun k hk => hk.elim (fun h => .inl h.1) fun h => .inr (by omega)) hb3)
      clear hr3 hb3 hR2 hA2 hZ2 hB2 hskm hA1 hA hR hB
      go_wp2_with fail
      exact bodyPost_ret (v := .agg #[.slice (some ⟨b1, o1, none⟩) 4 c1, .slice A1 (mountTo a a.ints.length).ints.length c2]) (by simp [results, Try.results31, go_sem, *]) rfl ⟨_, rfl, H.out.1, H.out.2⟩
end Go.Proofs.Ytoendmbgfbhidaa

namespace Go.Proofs.Ytoendmbgfbhidaa
set_option linter.unusedVariables false
open Go Go.RowKit M
/-- A list of four, set at the places of a stripe's blocks; those blocks. -/
def outG {α : Type} (f : Nat → α) (z : α) (s k : Nat) : List α := (List.range k).foldl (fun o n => if n / 3 = s then o.set (whereN n) (f n) else o) [z, z, z, z]
def lG {α : Type} (f : Nat → α) (s k : Nat) : List α := (List.range k).foldl (fun o n => if n / 3 = s then o ++ [f n] else o) []
section
variable {α : Type} {f : Nat → α} {z : α} {s k : Nat}
theorem outG_same (h : k / 3 = s) : outG f z s (k + 1) = (outG f z s k).set (whereN k) (f k) := by unfold outG; rw [List.range_succ, List.foldl_append]; simp [h]
theorem outG_other (h : k / 3 ≠ s) : outG f z s (k + 1) = outG f z s k := by unfold outG; rw [List.range_succ, List.foldl_append]; simp [h]
theorem lG_same (h : k / 3 = s) : lG f s (k + 1) = lG f s k ++ [f k] := by unfold lG; rw [List.range_succ, List.foldl_append]; simp [h]
theorem lG_other (h : k / 3 ≠ s) : lG f s (k + 1) = lG f s k := by unfold lG; rw [List.range_succ, List.foldl_append]; simp [h]
theorem outG_len : (outG f z s k).length = 4 := by
  induction k with
  | zero => rfl
  | succ k ih =>
    by_cases h : k / 3 = s
    · rw [outG_same h, List.length_set, ih]
    · rw [outG_other h, ih]
theorem lG_len : (lG f s k).length ≤ k := by
  induction k with
  | zero => exact Nat.le_refl _
  | succ k ih =>
    by_cases h : k / 3 = s
    · rw [lG_same h, List.length_append]; simp; exact ih
    · rw [lG_other h]; omega
theorem outG_rel {β : Type} {g : Nat → β} {y : β} {R : α → β → Prop} (hs : s < 3) {x : α} {u : β} (h : ∀ n, n < 9 → R (f n) (g n)) (hx : R x u) : ∀ (j : Nat) (p : α) (q : β), ((outG f z s 9).set (3 - s) x)[j]? = some p → ((outG g y s 9).set (3 - s) u)[j]? = some q → R p q := by
  have e : ∀ (γ : Type) (f : Nat → γ) (z x : γ), (outG f z s 9).set (3 - s) x = if s = 0 then [f 0, f 1, f 2, x] else if s = 1 then [f 3, f 4, x, f 5] else [f 6, x, f 7, f 8] := by
    intro γ f z x
    match s, hs with
    | 0, _ => rfl
    | 1, _ => rfl
    | 2, _ => rfl
  intro j p q hp hq
  rw [e] at hp hq
  match s, hs with
  | 0, _ =>
    match j with
    | 0 => simp at hp hq; subst hp; subst hq; exact h 0 (by decide)
    | 1 => simp at hp hq; subst hp; subst hq; exact h 1 (by decide)
    | 2 => simp at hp hq; subst hp; subst hq; exact h 2 (by decide)
    | 3 => simp at hp hq; subst hp; subst hq; exact hx
    | j + 4 => simp at hp
  | 1, _ =>
    match j with
    | 0 => simp at hp hq; subst hp; subst hq; exact h 3 (by decide)
    | 1 => simp at hp hq; subst hp; subst hq; exact h 4 (by decide)
    | 2 => simp at hp hq; subst hp; subst hq; exact hx
    | 3 => simp at hp hq; subst hp; subst hq; exact h 5 (by decide)
    | j + 4 => simp at hp
  | 2, _ =>
    match j with
    | 0 => simp at hp hq; subst hp; subst hq; exact h 6 (by decide)
    | 1 => simp at hp hq; subst hp; subst hq; exact hx
    | 2 => simp at hp hq; subst hp; subst hq; exact h 7 (by decide)
    | 3 => simp at hp hq; subst hp; subst hq; exact h 8 (by decide)
    | j + 4 => simp at hp
theorem lG_rel {β : Type} {g : Nat → β} {R : α → β → Prop} (hs : s < 3) (h : ∀ n, n < 9 → R (f n) (g n)) : (lG f s 9).length = (lG g s 9).length ∧ ∀ (j : Nat) (p : α) (q : β), (lG f s 9)[j]? = some p → (lG g s 9)[j]? = some q → R p q := by
  have e : ∀ (γ : Type) (f : Nat → γ), lG f s 9 = [f (3 * s), f (3 * s + 1), f (3 * s + 2)] := by
    intro γ f
    match s, hs with
    | 0, _ => rfl
    | 1, _ => rfl
    | 2, _ => rfl
  rw [e, e]
  refine ⟨rfl, fun j p q hp hq => ?_⟩
  match j with
  | 0 => simp at hp hq; subst hp; subst hq; exact h _ (by omega)
  | 1 => simp at hp hq; subst hp; subst hq; exact h _ (by omega)
  | 2 => simp at hp hq; subst hp; subst hq; exact h _ (by omega)
  | j + 3 => simp at hp
end
/-- What a plan's cells have, as the reference goes about it. -/
theorem plan_way {D : List Bs} {d : Deed} (hr : wrongI d = 0) (hD : D.length = 4) (h4 : Blocks4 D) {l9 : List Bs} {s : Nat} (hs : s = d.n.toNat / 3)
    (hl : l9 = doD (blocksQ fun t => if t = s then D else List.replicate 4 zero4) d) :
    (outG (fun n => l9.getD n []) [] s 9).set (3 - s) (xorAll (lG (fun n => l9.getD n []) s 9)) = planData D d ∧ Blocks4 (lG (fun n => l9.getD n []) s 9) := by
  obtain ⟨⟨n0, n1⟩, hq⟩ := wrong_ok hr
  have hs3 : s < 3 := by omega
  have hQ : ∀ t, t < 3 → ((fun t => if t = s then D else List.replicate 4 zero4) t).length = 4 := fun t _ => by
    by_cases h : t = s
    · simp [h, hD]
    · simp [h]
  have hd := doQ_blocks (Q := fun t => if t = s then D else List.replicate 4 zero4) hr hQ
  rw [← hd] at hl
  have hg : ∀ n, n < 9 → n / 3 = s → l9.getD n [] = (planData D d).getD (whereN n) [] := fun n hn he => by
    rw [hl, blocksQ_get _ hn, he]
    unfold doQ
    simp [← hs]
  obtain ⟨p1, p2, p3⟩ := plan_zero hr hD h4
  have hz : (planData D d).getD (3 - s) [] = xorAll ((planData D d).eraseIdx (3 - s)) := by
    have hi : 3 - s < (planData D d).length := by omega
    rw [xor_others p2 hi p3]
    simp [List.getD, List.getElem?_eq_getElem hi]
  obtain ⟨a, b, c, e, hP⟩ := list4 p1
  rw [hP] at hg hz p2 ⊢
  match s, hs3 with
  | 0, _ =>
    have g0 := hg 0 (by decide) (by decide)
    have g1 := hg 1 (by decide) (by decide)
    have g2 := hg 2 (by decide) (by decide)
    change l9.getD 0 [] = a at g0
    change l9.getD 1 [] = b at g1
    change l9.getD 2 [] = c at g2
    change e = xorAll [a, b, c] at hz
    have e1 : lG (fun n => l9.getD n []) 0 9 = [a, b, c] := by rw [← g0, ← g1, ← g2]; rfl
    have e2 : (outG (fun n => l9.getD n []) [] 0 9).set (3 - 0) (xorAll [a, b, c]) = [a, b, c, xorAll [a, b, c]] := by rw [← g0, ← g1, ← g2]; rfl
    rw [e1, e2, ← hz]
    exact ⟨rfl, fun x hx => p2 x (by simp at hx ⊢; rcases hx with h | h | h <;> simp [h])⟩
  | 1, _ =>
    have g0 := hg 3 (by decide) (by decide)
    have g1 := hg 4 (by decide) (by decide)
    have g2 := hg 5 (by decide) (by decide)
    change l9.getD 3 [] = a at g0
    change l9.getD 4 [] = b at g1
    change l9.getD 5 [] = e at g2
    change c = xorAll [a, b, e] at hz
    have e1 : lG (fun n => l9.getD n []) 1 9 = [a, b, e] := by rw [← g0, ← g1, ← g2]; rfl
    have e2 : (outG (fun n => l9.getD n []) [] 1 9).set (3 - 1) (xorAll [a, b, e]) = [a, b, xorAll [a, b, e], e] := by rw [← g0, ← g1, ← g2]; rfl
    rw [e1, e2, ← hz]
    exact ⟨rfl, fun x hx => p2 x (by simp at hx ⊢; rcases hx with h | h | h <;> simp [h])⟩
  | 2, _ =>
    have g0 := hg 6 (by decide) (by decide)
    have g1 := hg 7 (by decide) (by decide)
    have g2 := hg 8 (by decide) (by decide)
    change l9.getD 6 [] = a at g0
    change l9.getD 7 [] = c at g1
    change l9.getD 8 [] = e at g2
    change b = xorAll [a, c, e] at hz
    have e1 : lG (fun n => l9.getD n []) 2 9 = [a, c, e] := by rw [← g0, ← g1, ← g2]; rfl
    have e2 : (outG (fun n => l9.getD n []) [] 2 9).set (3 - 2) (xorAll [a, c, e]) = [a, xorAll [a, c, e], c, e] := by rw [← g0, ← g1, ← g2]; rfl
    rw [e1, e2, ← hz]
    exact ⟨rfl, fun x hx => p2 x (by simp at hx ⊢; rcases hx with h | h | h <;> simp [h])⟩
/-- The blocks, as they are laid for a deed. -/
def blkTo (D : List Bs) (s k : Nat) : List Bs := (List.range 9).map fun n => if n < k ∧ n / 3 = s then D.getD (whereN n) [] else zero4
theorem blkTo_zero (D : List Bs) (s : Nat) : blkTo D s 0 = newB := rfl
theorem blkTo_len (D : List Bs) (s k : Nat) : (blkTo D s k).length = 9 := by simp [blkTo]
theorem blkTo_same {D : List Bs} {s k : Nat} (hk : k < 9) (h : k / 3 = s) : (blkTo D s k).set k (D.getD (whereN k) []) = blkTo D s (k + 1) := by
  apply List.ext_getElem (by simp [blkTo])
  intro i h1 h2
  have hi : i < 9 := by simpa [blkTo] using h2
  by_cases he : i = k
  · subst he
    rw [List.getElem_set_self]
    simp [blkTo, h]
  · rw [List.getElem_set_ne (Ne.symm he)]
    simp only [blkTo, List.getElem_map, List.getElem_range]
    have : i < k ↔ i < k + 1 := by omega
    simp only [this]
theorem blkTo_other {D : List Bs} {s k : Nat} (h : k / 3 ≠ s) : blkTo D s (k + 1) = blkTo D s k := by
  unfold blkTo
  apply List.map_congr_left
  intro n _
  by_cases he : n = k
  · subst he; simp [h]
  · have : n < k ↔ n < k + 1 := by omega
    simp only [this]
theorem blkTo_all (D : List Bs) (s : Nat) : blkTo D s 9 = blocksQ fun t => if t = s then D else List.replicate 4 zero4 := by
  unfold blkTo blocksQ
  apply List.map_congr_left
  intro n hn
  have hn9 : n < 9 := by simpa using hn
  by_cases h : n / 3 = s
  · simp [h, hn9]
  · have hw := (whereN_ne hn9).2
    have e : (List.replicate 4 zero4).getD (whereN n) [] = zero4 := by simp only [List.getD, List.getElem?_replicate, if_pos hw]; rfl
    rw [if_neg (fun x => h x.2)]
    simp only [if_neg h]
    exact e.symm
end Go.Proofs.Ytoendmbgfbhidaa

namespace Go.Proofs.Ytoendmbgfbhidaa
set_option linter.unusedVariables false
open Go Go.RowKit M
theorem boxes3 (w : World) (a b c : List Value) (T T' T'' : TypeId) : ∃ w1, (((w.alloc (.cells a.toArray T)).alloc (.cells b.toArray T')).alloc (.cells c.toArray T'')) = w1 ∧ BoxAt w1 w.heap.size T a ∧ BoxAt w1 (w.heap.size + 1) T' b ∧ BoxAt w1 (w.heap.size + 1 + 1) T'' c ∧ Below w.heap.size w w1 ∧ w1.heap.size = w.heap.size + 3 := by
  have h0 := boxAt_new w T a
  have h1 := below_alloc w (.cells a.toArray T)
  have h2 := boxAt_new (w.alloc (.cells a.toArray T)) T' b
  have h3 := below_alloc (w.alloc (.cells a.toArray T)) (.cells b.toArray T')
  have h4 := boxAt_new ((w.alloc (.cells a.toArray T)).alloc (.cells b.toArray T')) T'' c
  have h5 := below_alloc ((w.alloc (.cells a.toArray T)).alloc (.cells b.toArray T')) (.cells c.toArray T'')
  rw [alloc_size] at h2
  rw [alloc_size, alloc_size] at h4
  refine ⟨_, rfl, (h0.grow h3).grow h5, h2.grow h5, h4, (h1.trans (h3.mono h1.size)).trans (h5.mono (Nat.le_trans h1.size h3.size)), by rw [alloc_size, alloc_size, alloc_size]⟩
theorem mk4BB (w : World) : (Instr.makeSlice 41 (.int .i64 4) (.int .i64 4)).run Try.prog w = .ok (.slice (some ⟨w.heap.size, 0, none⟩) 4 4) (w.alloc (.cells #[.slice none 0 0, .slice none 0 0, .slice none 0 0, .slice none 0 0] 23)) := by kernel_rfl
def vAt (us : List Value) (n : Nat) : Value := us.getD n (.slice none 0 0)
theorem okRVL : Ok (RdL RV) := okL okRV
/-- The end of it, where there is no plan. -/
theorem plan_none_end {w w' : World} (T : TypeId) (hz : BoxAt w' (w.heap.size + 1 + 1) T [.int .i64 0, .slice none 0 0]) (hb : Below w.heap.size w w') : RdI (set2 w' (w.heap.size + 1 + 1) (.int .i64 0) (.slice none 0 0)) (fun k => w.heap.size ≤ k) (.agg #[.int .i64 0, .slice none 0 0]) (0, []) ∧ Below w.heap.size w (set2 w' (w.heap.size + 1 + 1) (.int .i64 0) (.slice none 0 0)) :=
  ⟨⟨_, rfl, RdL.nil_ _ _ _ _ _ (by decide)⟩, hb.trans (below_set2 (by omega))⟩
set_option maxRecDepth 100000 in
set_option maxHeartbeats 1600000 in
theorem ref_Plan (a : Arr) (d : Deed) (v vd : Value) (F : Fp) {F2 : Fp} (w : World) (h : RdA w F v a) (hd : RdD w F2 vd d) (hsh : Shape a.disks) :
    Calls Try.prog 27 #[v, vd] w fun e w' => ∃ v', e = .returned (.tuple #[v', .int .i64 (planA a.disks d).2]) ∧ RdI w' (fun k => w.heap.size ≤ k) v' (planA a.disks d).1 ∧ Below w.heap.size w w' := by
  obtain ⟨b0, o0, c0, Ai, ci, rfl, hD, hI, hc0, hc1⟩ := RdA_open h hsh
  obtain ⟨dv, rfl, hdv⟩ := hd
  replace hdv := okB.lt hdv
  obtain ⟨Ad, cd, rfl, _, _⟩ := hdv.shape
  obtain ⟨w1, hW, hA, hX, hZ, hB, hsz⟩ := boxes3 w [.slice (some ⟨b0, o0, none⟩) 4 c0, .slice Ai a.ints.length ci] [.int .i64 d.kind, .int .i64 d.n, .int .i64 d.m, .slice Ad d.data.length cd] [.int .i64 0, .slice none 0 0] 30 25 46
  change (((w.alloc (.cells #[.slice (some ⟨b0, o0, none⟩) 4 c0, .slice Ai a.ints.length ci] 30)).alloc (.cells #[.int .i64 d.kind, .int .i64 d.n, .int .i64 d.m, .slice Ad d.data.length cd] 25)).alloc (.cells #[.int .i64 0, .slice none 0 0] 46)) = w1 at hW
  have HSZ := Lib.hid hsz
  have HS := Lib.hid hsh
  clear hsz hsh h
  obtain ⟨y0, y1, y2, y3⟩ := hX.four
  go_enter Try.func27, Try.ntmps27
  go_wp2_with fail
  clear hW
  refine (ref_Wrong d _ _ _ ⟨_, rfl, okB.grow hdv hB⟩).mono ?_
  rintro e w2 ⟨rfl, hb2⟩
  have hB2 := hB.trans (hb2.mono hB.size)
  have hX2 := hX.grow hb2
  have hA2 := hA.grow hb2
  have hZ2 := hZ.grow hb2
  clear y0 y1 y2 y3 hX hA hZ hB hb2
  by_cases hr : wrongI d = 0
  rotate_left
  · have HP := Lib.hid (plan_wrong (D := a.disks) hr)
    obtain ⟨z0, z1, z2, z3⟩ := hZ2.two
    have H := Lib.hid (plan_none_end _ hZ2 hB2)
    have hne : (wrongI d != 0) = true := by simpa using hr
    clear hX2 hA2 hZ2 hB2 hr
    go_wp2_with fail
    exact bodyPost_ret (v := .tuple #[.agg #[.int .i64 0, .slice none 0 0], .int .i64 (wrongI d)]) (by simp [results, Try.results27, go_sem, *]) rfl (by rw [HP.out]; exact ⟨_, rfl, H.out.1, H.out.2⟩)
  rw [hr]
  obtain ⟨⟨n0, n1⟩, _⟩ := wrong_ok hr
  have HR := Lib.hid hr
  obtain ⟨n, hn⟩ : ∃ n : Nat, d.n = n := ⟨d.n.toNat, by omega⟩
  have hn9 : n < 9 := by omega
  have hnt : d.n.toNat = n := by omega
  rw [hn] at hX2
  obtain ⟨s, hs⟩ : ∃ s, n / 3 = s := ⟨_, rfl⟩
  have hs3 : s < 3 := by omega
  have PL := @plan_lost a.disks d hr
  have PH := @plan_had a.disks d hr
  rw [hnt, hs] at PL PH
  have HPL := Lib.hid PL
  have HPH := Lib.hid PH
  have HSN := Lib.hid (show s = d.n.toNat / 3 by rw [hnt, hs])
  obtain ⟨x0, x1, x2, x3⟩ := hA2.two
  obtain ⟨y0, y1, y2, y3⟩ := hX2.four
  have HN := Lib.hid hn
  clear hr n0 n1 hn hnt PL PH
  go_wp2_with fail
  refine (ref_Where n _ hn9).mono ?_
  rintro e w3 ⟨rfl, hb3⟩
  rw [hs]
  clear hs
  have hB3 := hB2.trans (hb3.mono hB2.size)
  have hX3 := hX2.grow hb3
  have hA3 := hA2.grow hb3
  have hZ3 := hZ2.grow hb3
  clear x0 x1 x2 x3 y0 y1 y2 y3 hX2 hA2 hZ2 hB2 hb3
  obtain ⟨x0, x1, x2, x3⟩ := hA3.two
  go_wp2_with fail
  refine (ref_Cells a s _ _ _ ⟨_, _, rfl, okBBB.grow hD hB3, okIs.grow hI hB3⟩ HS.out hs3).mono ?_
  rintro e w4 ⟨v4, rfl, hv4, hb4⟩
  have hr4 := hv4.toRd_ okB
  have HL4 := Lib.hid (show (cellsA a.disks s).length = 4 by rw [cellsA_len, HS.out.1])
  have hB4 := hB3.trans (hb4.mono hB3.size)
  have hX4 := hX3.grow hb4
  have hZ4 := hZ3.grow hb4
  clear x0 x1 x2 x3 hX3 hA3 hZ3 hB3 hb4 hv4
  go_wp2_with fail
  refine (ref_Data (cellsA a.disks s) s _ _ _ hr4 (by rw [HL4.out]; decide)).mono ?_
  rintro e w5 ⟨v5, rfl, hv5, hb5⟩
  have hB5 := hB4.trans (hb5.mono hB4.size)
  have hX5 := hX4.grow hb5
  have hZ5 := hZ4.grow hb5
  clear hX4 hZ4 hB4 hb5 hr4
  by_cases h9 : (dataL (cellsA a.disks s) s).2 = 0
  rotate_left
  · have HP := Lib.hid (HPL.out h9)
    obtain ⟨z0, z1, z2, z3⟩ := hZ5.two
    have H := Lib.hid (plan_none_end _ hZ5 hB5)
    have hne : ((dataL (cellsA a.disks s) s).2 != 0) = true := by simpa using h9
    clear hX5 hZ5 hB5 h9 hv5 HPH HPL
    generalize (dataL (cellsA a.disks s) s).2 = q at *
    go_wp2_with fail
    exact bodyPost_ret (v := .tuple #[.agg #[.int .i64 0, .slice none 0 0], .int .i64 q]) (by simp [results, Try.results27, go_sem, *]) rfl (by rw [HP.out]; exact ⟨_, rfl, H.out.1, H.out.2⟩)
  have HP := Lib.hid (HPH.out h9)
  obtain ⟨q1, q2, _⟩ := data_blocks h9
  rw [HL4.out] at q1
  rw [h9]
  have hr5 := hv5.toRd_ okB
  clear h9 HPL HPH hv5
  obtain ⟨D, hDD⟩ : ∃ D, (dataL (cellsA a.disks s) s).1 = D := ⟨_, rfl⟩
  rw [hDD] at q1 q2 hr5 HP
  obtain ⟨g5, o5, c5, rfl, _, _, hc5, hc5m⟩ := hr5.form (by omega)
  rw [q1] at hr5 hc5 ⊢
  unfold maxLen at hc5m
  have HQ1 := Lib.hid q1
  have HQ2 := Lib.hid q2
  clear hDD q1 q2
  go_wp2_with fail
  refine (ref_NewBlocks _).mono ?_
  rintro e w6 ⟨v6, rfl, hv6, hb6⟩
  obtain ⟨g6, c6, rfl, hg60, hg61, hc6, hc6m⟩ := hv6.form (by decide)
  rw [show newB.length = 9 from rfl] at hv6 hc6 ⊢
  unfold maxLen at hc6m
  have HB6 := Lib.hid hb6
  have HX6 := Lib.hid (hX5.grow hb6)
  have HZ6 := Lib.hid (hZ5.grow hb6)
  have HBB := Lib.hid (hB5.trans (hb6.mono hB5.size))
  have HS5 := Lib.hid hZ5.lt
  clear hX5 hZ5 hB5 hb6
  go_wp2_with fail
  go_loopw [52] (fun i wr => ∃ k : Nat, k ≤ 9 ∧ i = .int .i64 k ∧ Bld RdB 23 wr w5.heap.size (fun _ => True) (.slice (some ⟨g6, 0, none⟩) 9 c6) (blkTo D s k) ∧ Below w5.heap.size w6 wr) (fun i _ => 9 - (intOf i).toNat)
  case atStart => exact ⟨0, Nat.zero_le _, rfl, hv6, Below.refl _ _⟩
  case round =>
    obtain ⟨k, hk, rfl, hO, hlw⟩ := hrel
    have HLW := Lib.hid hlw
    by_cases hlt : k < 9
    · obtain ⟨t, ht⟩ : ∃ t, k / 3 = t := ⟨_, rfl⟩
      obtain ⟨x, hx⟩ : ∃ x, whereN k = x := ⟨_, rfl⟩
      have hx4 : x < 4 := by rw [← hx]; exact (whereN_ne hlt).2
      have HSame := Lib.hid (@blkTo_same D s k hlt)
      have HOther := Lib.hid (@blkTo_other D s k)
      have HO := Lib.hid hO
      clear hO hlw hv6
      go_wp2_with fail
      refine (ref_Where k _ hlt).mono ?_
      rintro e w7 ⟨rfl, hb7⟩
      rw [where_eq, ht, hx]
      have HO7 := Lib.hid (HO.out.grow okB hb7)
      have HLW7 := Lib.hid (HLW.out.trans (hb7.mono (Nat.le_trans HB6.out.size HLW.out.size)))
      by_cases hts : t = s
      · subst hts
        have he := HSame.out ht
        rw [hx] at he
        have HE := Lib.hid he
        have hrD := okBB.grow hr5 (HB6.out.trans HLW7.out)
        obtain ⟨u, hu, hRu⟩ := RdL_q hrD (k := x) (x := D.getD x []) (by simp [List.getD, List.getElem?_eq_getElem (show x < D.length by have := HQ1.out; omega)])
        have hset := HO7.out.set_ okB (k := k) (by rw [blkTo_len]; exact hlt) (u := u) (x := D.getD x []) (okB.mono hRu fun k hk => ⟨by omega, trivial⟩)
        obtain ⟨_, hfz0, hfz, _⟩ := HO7.out.at_ (k := k) (by rw [blkTo_len]; exact hlt)
        obtain ⟨Au, cu, rfl, _, _⟩ := hRu.shape
        have hbs := HLW7.out.setCell (p := ⟨g6, k, none⟩) hg60 (.slice Au (D.getD x []).length cu)
        rw [he] at hset
        have H := Lib.hid (And.intro hset hbs)
        clear hset hbs hRu hrD he ht hx hb7
        go_wp2
        go_roundw
        case rel => exact ⟨k + 1, by omega, by go_num, H.out.1, H.out.2⟩
        case measure => simp [intOf]; omega
      · have hne : ((t : Int) == (s : Int)) = false := by simp; omega
        have HE := Lib.hid (HOther.out (by rw [ht]; exact hts))
        clear ht hx hb7 hts
        go_wp2
        go_roundw
        case rel => exact ⟨k + 1, by omega, by go_num, by rw [HE.out]; exact HO7.out, HLW7.out⟩
        case measure => simp [intOf]; omega
    · obtain rfl : k = 9 := by omega
      rw [blkTo_all] at hO
      have hr9 := hO.toRd_ okB
      clear hv6 hO
      rename World => w7
      have hs5 := HS5.out
      have hX7 := HX6.out.keep hlw (by omega)
      have HZ7 := Lib.hid (HZ6.out.keep hlw (by omega))
      have HB7 := Lib.hid (HBB.out.trans (hlw.mono (by omega)))
      have HR9 := Lib.hid hr9
      have HDV := Lib.hid (okB.grow hdv HB7.out)
      obtain ⟨y0, y1, y2, y3⟩ := hX7.four
      have hsz7 := Nat.le_trans HB6.out.size hlw.size
      clear hr9 hX7 hlw hdv hD hI hr5 hk hlt
      go_wp2_with fail
      refine (ref_Do _ d _ _ _ _ (okBB.mono HR9.out (F' := fun _ => True) fun _ _ => trivial) ⟨_, by rw [HN.out], okB.mono HDV.out fun _ _ => trivial⟩ (blocksQ_len _) HR.out).mono ?_
      rintro e w8 ⟨v8, rfl, hv8, hb8⟩
      obtain ⟨hway, hway4⟩ := plan_way HR.out HQ1.out HQ2.out HSN.out rfl
      have hl9 : (doD (blocksQ fun t => if t = s then D else List.replicate 4 zero4) d).length = 9 := by rw [doD_length, blocksQ_len]
      have hr8 := hv8.toRd_ okB
      generalize doD (blocksQ fun t => if t = s then D else List.replicate 4 zero4) d = l9 at *
      obtain ⟨us, hus, husl, husR⟩ := hr8.vals okB
      rw [hl9] at husl
      obtain ⟨g8, o8, c8, rfl, _, _, hc8, hc8m⟩ := hus.form (by omega)
      rw [husl] at hus hc8 ⊢
      unfold maxLen at hc8m
      have hb7 := HB7.out
      have HZ8 := Lib.hid (HZ7.out.grow hb8)
      have HB8 := Lib.hid (hb7.trans (hb8.mono hb7.size))
      have hout : Bld RV 23 (w8.alloc (.cells #[.slice none 0 0, .slice none 0 0, .slice none 0 0, .slice none 0 0] 23)) w8.heap.size (fun _ => True) (.slice (some ⟨w8.heap.size, 0, none⟩) 4 4) (outG (vAt us) (.slice none 0 0) s 0) := Bld.lit okRV (us := [.slice none 0 0, .slice none 0 0, .slice none 0 0, .slice none 0 0]) 23 (Nat.le_refl _) rfl (by decide) fun j u x hu hx => by
        change [Value.slice none 0 0, .slice none 0 0, .slice none 0 0, .slice none 0 0][j]? = some x at hx
        have hux : u = x := by rw [hu] at hx; exact Option.some.inj hx
        subst hux
        refine ⟨rfl, ?_⟩
        have := List.mem_of_getElem? hu
        simp at this
        rw [this]
        rfl
      have hb9 := below_alloc w8 (.cells #[.slice none 0 0, .slice none 0 0, .slice none 0 0, .slice none 0 0] 23)
      have hs8 : w.heap.size + 1 + 1 < w8.heap.size := HZ8.out.lt
      have HOut := Lib.hid hout
      have HB9 := Lib.hid hb9
      have HWay := Lib.hid (And.intro hway hway4)
      have HUR := Lib.hid husR
      have HL9 := Lib.hid hl9
      have hmk := mk4BB w8
      clear hout hb9 hway hway4 husR hv8 hr8 hb8 hb7 y0 y1 y2 y3 hl9
      go_wp2_with fail
      clear hmk
      generalize w8.alloc (.cells #[.slice none 0 0, .slice none 0 0, .slice none 0 0, .slice none 0 0] 23) = w9 at *
      go_loopw [18, 78] (fun u i wr => ∃ k : Nat, k ≤ 9 ∧ i = .int .i64 k ∧ Bld RV 23 wr w8.heap.size (fun _ => True) (.slice (some ⟨w8.heap.size, 0, none⟩) 4 4) (outG (vAt us) (.slice none 0 0) s k) ∧ Bld RV 23 wr w8.heap.size (fun _ => True) u (lG (vAt us) s k) ∧ (∀ k, u.ownBlock = some k → k ≠ w8.heap.size) ∧ Below w8.heap.size w9 wr) (fun _ i _ => 9 - (intOf i).toNat)
      case atStart => exact ⟨0, Nat.zero_le _, rfl, HOut.out, Bld.nil_ _ _ _ _ _, fun k hk => by simp [Value.ownBlock] at hk, Below.refl _ _⟩
      case round =>
        obtain ⟨k, hk, rfl, hO, hL, hne, hlw⟩ := hrel
        have H0 := Lib.hid (And.intro hO (And.intro hL (And.intro hne hlw)))
        have hus2 := okRVL.grow hus (HB9.out.trans hlw)
        by_cases hlt : k < 9
        · obtain ⟨t, ht⟩ : ∃ t, k / 3 = t := ⟨_, rfl⟩
          obtain ⟨x, hx⟩ : ∃ x, whereN k = x := ⟨_, rfl⟩
          have hx4 : x < 4 := by rw [← hx]; exact (whereN_ne hlt).2
          obtain ⟨uk, huk⟩ : ∃ u, us[k]? = some u := ⟨us[k]'(by omega), List.getElem?_eq_getElem _⟩
          obtain ⟨_, hu, hu2, h1c⟩ := RdL_q hus2 huk
          subst hu2
          have hkl : k < l9.length := by have := HL9.out; omega
          obtain ⟨Ak, ck, rfl, _, _⟩ := (HUR.out k _ _ huk (List.getElem?_eq_getElem hkl)).shape
          have HF := Lib.hid (show vAt us k = .slice Ak l9[k].length ck by simp [vAt, List.getD, huk])
          clear hO hL hne hlw huk hus2
          go_wp2_with fail
          refine (ref_Where k _ hlt).mono ?_
          rintro e w10 ⟨rfl, hb10⟩
          rw [where_eq, ht, hx]
          have HLW10 := Lib.hid (H0.out.2.2.2.trans (hb10.mono (Nat.le_trans HB9.out.size H0.out.2.2.2.size)))
          have HO10 := Lib.hid (H0.out.1.grow okRV hb10)
          have HL10 := Lib.hid (H0.out.2.1.grow okRV hb10)
          by_cases hts : t = s
          · subst hts
            have e1 := outG_same (f := vAt us) (z := .slice none 0 0) ht
            have e2 := lG_same (f := vAt us) ht
            rw [hx] at e1
            rw [HF.out] at e1 e2
            have hset := HO10.out.set_ okRV (k := x) (by rw [outG_len]; exact hx4) (u := .slice Ak l9[k].length ck) (x := .slice Ak l9[k].length ck) ⟨rfl, rfl⟩
            obtain ⟨_, hfz0, hfz, _⟩ := HO10.out.at_ (k := x) (by rw [outG_len]; exact hx4)
            rw [← e1] at hset
            have hLs := HL10.out.setcV (b := w8.heap.size) (j := x) (v := .slice Ak l9[k].length ck) H0.out.2.2.1
            have hbs := HLW10.out.setCell (p := ⟨w8.heap.size, x, none⟩) (Nat.le_refl _) (.slice Ak l9[k].length ck)
            have HE2 := Lib.hid e2
            have HT := Lib.hid (show ((lG (vAt us) t k).length + 1) * 24 ≤ 140737488355328 by have := lG_len (f := vAt us) (s := t) (k := k); omega)
            have hsz10 : w8.heap.size ≤ w10.heap.size := Nat.le_trans HB9.out.size (HLW10.out.size)
            obtain ⟨wS, hwS⟩ : ∃ wS, w10.setCell ⟨w8.heap.size, x, none⟩ (.slice Ak l9[k].length ck) = wS := ⟨_, rfl⟩
            rw [hwS] at hset hLs hbs
            have hszS : wS.heap.size = w10.heap.size := by rw [← hwS, setCell_size]
            have HSet := Lib.hid hset
            have HLs := Lib.hid hLs
            have HBs := Lib.hid hbs
            have HNe := Lib.hid H0.out.2.2.1
            clear hset hLs hbs e1 e2 hb10 ht hx
            go_wp2_with (at_builtin; refine wpList_append_bld _ rfl _ _ 41 (by rfl) okRV slBB w8.heap.size (fun _ => True) u18 _ (lG (vAt us) t k) [.slice Ak l9[k].length ck] (by rfl) (by rfl) (HLs.out.alloc okRV _) (src_one okRV HLs.out trivial ⟨rfl, rfl⟩ _ (by rw [hszS])) HT.out ?c2 ?c3)
            case c2 => rw [alloc_size, hszS]; omega
            case c3 =>
            intro v' w' g1 g2 g3 g4
            rw [← HE2.out] at g1
            have hO' := (((HSet.out.alloc okRV (.cells #[.slice Ak l9[k].length ck] 23)).anyG (G' := fun _ => False)).keep okRV g3 (.inr fun e => HNe.out _ e.symm rfl) fun _ _ hk => False.elim hk).anyG (G' := fun _ => True)
            have hne' : ∀ k, v'.ownBlock = some k → k ≠ w8.heap.size := fun k hk e => by
              rcases g4 with g4 | g4
              · exact HNe.out k (g4 ▸ hk) e
              · rw [hk] at g4
                injection g4 with g4
                omega
            have H := Lib.hid (And.intro hO' (And.intro g1 (And.intro hne' (HBs.out.trans ((below_alloc wS (.cells #[.slice Ak l9[k].length ck] 23)).mono (by rw [hszS]; exact hsz10) |>.trans g2)))))
            clear hO' g1 g2 g3 g4 hne'
            go_wp2
            go_roundw
            case rel => exact ⟨k + 1, by omega, by go_num, H.out.1, H.out.2.1, H.out.2.2.1, H.out.2.2.2⟩
            case measure => simp [intOf]; omega
          · have hne : ((t : Int) == (s : Int)) = false := by simp; omega
            have e1 := outG_other (f := vAt us) (z := .slice none 0 0) (s := s) (k := k) (by rw [ht]; exact hts)
            have e2 := lG_other (f := vAt us) (s := s) (k := k) (by rw [ht]; exact hts)
            have HE := Lib.hid (And.intro e1 e2)
            clear ht hx hb10 hts e1 e2
            go_wp2
            go_roundw
            case rel => exact ⟨k + 1, by omega, by go_num, by rw [HE.out.1]; exact HO10.out, by rw [HE.out.2]; exact HL10.out, H0.out.2.2.1, HLW10.out⟩
            case measure => simp [intOf]; omega
        · obtain rfl : k = 9 := by omega
          clear hk hlt
          obtain ⟨hO, hL, hne, hlw⟩ := H0.out
          have hs9 : w8.heap.size < wr.heap.size := (hO.blk _ rfl).2
          have hB9 := HB8.out.trans ((HB9.out.trans hlw).mono (by omega))
          have hUR := fun (n : Nat) (hn : n < 9) => (okB.grow (HUR.out n (vAt us n) (l9.getD n []) (by unfold vAt; simp [List.getD, List.getElem?_eq_getElem (show n < us.length by omega)]) (by have := HL9.out; simp [List.getD, List.getElem?_eq_getElem (show n < l9.length by omega)])) (HB9.out.trans hlw) : RdB wr (fun k => k < w8.heap.size) (vAt us n) (l9.getD n []))
          have hZ9 := HZ8.out.grow (HB9.out.trans hlw)
          obtain ⟨hlen, hrel⟩ := lG_rel (f := vAt us) (g := fun n => l9.getD n []) (R := fun u b => RdB wr (fun k => k < wr.heap.size) u b) hs3 fun n hn => okB.mono (hUR n hn) fun k hk => by omega
          have hLr : RdBB wr (fun k => k < wr.heap.size) u18 (lG (fun n => l9.getD n []) s 9) := (hL.toRd_ okRV).of_vals hlen hrel
          have HUR9 := Lib.hid hUR
          have HO9 := Lib.hid hO
          have HB10 := Lib.hid hB9
          have HZ9 := Lib.hid hZ9
          have HLR := Lib.hid hLr
          rename World => w10
          clear hO hL hne hlw hB9 hUR hZ9 hlen hrel hLr
          go_wp2_with fail
          obtain ⟨r, hr⟩ : ∃ r, 3 - s = r := ⟨_, rfl⟩
          have hr4 : r < 4 := by omega
          obtain ⟨way1, way4⟩ := HWay.out
          rw [hr] at way1
          have HWay2 := Lib.hid way1
          have HWay4 := Lib.hid way4
          have Hr := Lib.hid hr
          refine (ref_Spare s _ (by omega) (by omega)).mono ?_
          rintro e w11 ⟨rfl, hb11⟩
          rw [show (3 : Int) - (s : Int) % 4 = (r : Int) by omega]
          clear way1 way4 hr
          go_wp2_with fail
          refine (ref_Xor _ _ _ _ (okBB.grow HLR.out hb11) HWay4.out).mono ?_
          rintro e w12 ⟨v12, rfl, hv12, hb12⟩
          have hr12 := okB.lt ((hv12.bytes (G' := fun k => w11.heap.size ≤ k)).toRd ok8 (F := fun k => w11.heap.size ≤ k) (fun _ hk => hk) (fun _ hk => hk))
          obtain ⟨A12, c12, rfl, _, _⟩ := hr12.shape
          rw [xorAll_length] at hr12 ⊢
          have hbs := hb11.trans (hb12.mono hb11.size)
          have hO12 := HO9.out.grow okRV hbs
          have h3s : r < (outG (vAt us) (.slice none 0 0) s 9).length := by rw [outG_len]; omega
          have hset := hO12.set_ okRV (k := r) h3s (u := .slice A12 4 c12) (x := .slice A12 4 c12) ⟨rfl, rfl⟩
          obtain ⟨_, hfz0, hfz, _⟩ := hO12.at_ h3s
          have hUR := fun (n : Nat) (hn : n < 9) => okB.setc (okB.grow (HUR9.out n hn) hbs) (b := w8.heap.size) (j := r) (v := .slice A12 4 c12) (fun k hk => by omega)
          have hx12 := okB.setc hr12 (b := w8.heap.size) (j := r) (v := .slice A12 4 c12) (fun k hk => by have := hb11.size; omega)
          have hZ12 := (HZ9.out.grow hbs).far (b' := w8.heap.size) (j := r) (v := .slice A12 4 c12) (by omega)
          have hB12 := (HB10.out.trans (hbs.mono HB10.out.size)).setCell (p := ⟨w8.heap.size, r, none⟩) (by show w.heap.size ≤ w8.heap.size; omega) (.slice A12 4 c12)
          have hP4 : (planData D d).length = 4 := (plan_zero HR.out HQ1.out HQ2.out).1
          have hrel := outG_rel (f := vAt us) (g := fun n => l9.getD n []) (z := .slice none 0 0) (y := []) (x := .slice A12 4 c12) (u := xorAll (lG (fun n => l9.getD n []) s 9)) (R := fun u b => RdB (w12.setCell ⟨w8.heap.size, r, none⟩ (.slice A12 4 c12)) (fun _ => True) u b) hs3 (fun n hn => okB.mono (hUR n hn) fun _ _ => trivial) (okB.mono hx12 fun _ _ => trivial)
          rw [Hr.out, HWay2.out] at hrel
          have hPr : RdBB (w12.setCell ⟨w8.heap.size, r, none⟩ (.slice A12 4 c12)) (fun _ => True) (.slice (some ⟨w8.heap.size, 0, none⟩) 4 4) (planData D d) := RdL.of_vals ((okL okRV).mono (hset.toRd_ okRV) fun _ _ => trivial) (by rw [List.length_set, outG_len, hP4]) hrel
          have HP4 := Lib.hid hP4
          have H := Lib.hid (And.intro hPr (And.intro hZ12 hB12))
          clear hPr hZ12 hB12 hrel hx12 hUR hset hO12 hbs hr12 hv12 hb11 hb12 hP4
          go_wp2_with fail
          refine (ref_Make (planData D d) s _ _ _ H.out.1 (by omega) (by rw [HP4.out]; decide) (plan_zero HR.out HQ1.out HQ2.out).2.1).mono ?_
          rintro e w13 ⟨v13, rfl, hv13, hb13⟩
          have hr13 := hv13.toRd okB (R' := RdB) (fun h => h) okB
          obtain ⟨A13, c13, rfl, _, _⟩ := hr13.shape
          have hZ13 := H.out.2.1.grow hb13
          obtain ⟨z0, z1, z2, z3⟩ := hZ13.two
          have hB13 := H.out.2.2.trans (hb13.mono H.out.2.2.size)
          have hZl := H.out.2.1.lt
          have hr14 : RdBB (set2 w13 (w.heap.size + 1 + 1) (.int .i64 s) (.slice A13 (makeL (planData D d) s).length c13)) _ _ _ := okBB.set2 hr13 (b := w.heap.size + 1 + 1) fun k hk => by omega
          have hb14 := hB13.trans (below_set2 (b := w.heap.size + 1 + 1) (v0 := .int .i64 s) (v1 := .slice A13 (makeL (planData D d) s).length c13) (by omega))
          have HF := Lib.hid (And.intro (okBB.mono hr14 (F' := fun k => w.heap.size ≤ k) fun k hk => by omega) hb14)
          clear hr14 hb14 hr13 hv13 hb13 hZ13 hB13 hZl
          go_wp2_with fail
          exact bodyPost_ret (v := .tuple #[.agg #[.int .i64 s, .slice A13 (makeL (planData D d) s).length c13], .int .i64 0]) (by simp [results, Try.results27, go_sem, *]) rfl (by rw [HP.out]; exact ⟨_, rfl, ⟨_, rfl, HF.out.1⟩, HF.out.2⟩)
end Go.Proofs.Ytoendmbgfbhidaa

namespace Go.Proofs.Ytoendmbgfbhidaa
set_option linter.unusedVariables false
open Go Go.RowKit M
theorem intOk_plan {D : List (List Bs)} (hs : Shape D) {d : Deed} (h : (planA D d).2 = 0) : IntOk (planA D d).1 := by
  obtain ⟨_, h1, h2, h3, h4⟩ := plan_form hs h
  exact ⟨by rw [h1, Int.toNat_natCast], h2, h3, h4⟩
theorem doA_bad {a : Arr} {d : Deed} (h : (planA a.disks d).2 ≠ 0) : doA a d = (a, (planA a.disks d).2) := by unfold doA; rw [if_pos h]
theorem doA_ok {a : Arr} {d : Deed} (h : (planA a.disks d).2 = 0) : doA a d = (writeR a (planA a.disks d).1 6, 0) := by unfold doA; rw [if_neg (by simpa using h)]; rfl
/-- A box into which a record of two is laid: the end of many a function. -/
theorem ret_box {w w' : World} {b : Nat} {T : TypeId} {cs : List Value} {F F' : Fp} {u0 u1 : Value} {a : Arr} (hz : BoxAt w' b T cs) (hb : Below w.heap.size w w') (hwb : w.heap.size ≤ b) (hr : RdA w' F (.agg #[u0, u1]) a) (hF : ∀ k, F k → k ≠ b) (hF' : ∀ k, F k → F' k) :
    RdA (set2 w' b u0 u1) F' (.agg #[u0, u1]) a ∧ Below w.heap.size w (set2 w' b u0 u1) := ⟨(hr.set2 (b := b) hF).mono hF', hb.trans (below_set2 hwb)⟩
set_option maxRecDepth 100000 in
set_option maxHeartbeats 1600000 in
theorem ref_Do6 (a : Arr) (d : Deed) (v vd : Value) (F : Fp) {F2 : Fp} (w : World) (h : RdA w F v a) (hd : RdD w F2 vd d) (hsh : Shape a.disks) :
    Calls Try.prog 19 #[v, vd] w fun e w' => ∃ v', e = .returned (.tuple #[v', .int .i64 (doA a d).2]) ∧ RdA w' (fun k => F k ∨ w.heap.size ≤ k) v' (doA a d).1 ∧ Below w.heap.size w w' := by
  obtain ⟨b0, o0, c0, Ai, ci, rfl, hD, hI, hc0, hc1⟩ := RdA_open h hsh
  obtain ⟨dv, rfl, hdv⟩ := hd
  replace hdv := okB.lt hdv
  obtain ⟨Ad, cd, rfl, _, _⟩ := hdv.shape
  obtain ⟨w1, hW, hA, hX, hZ, hB, hsz⟩ := boxes3 w [.slice (some ⟨b0, o0, none⟩) 4 c0, .slice Ai a.ints.length ci] [.int .i64 d.kind, .int .i64 d.n, .int .i64 d.m, .slice Ad d.data.length cd] [.slice none 0 0, .slice none 0 0] 30 25 30
  change (((w.alloc (.cells #[.slice (some ⟨b0, o0, none⟩) 4 c0, .slice Ai a.ints.length ci] 30)).alloc (.cells #[.int .i64 d.kind, .int .i64 d.n, .int .i64 d.m, .slice Ad d.data.length cd] 25)).alloc (.cells #[.slice none 0 0, .slice none 0 0] 30)) = w1 at hW
  have HSZ := Lib.hid hsz
  have HS := Lib.hid hsh
  clear hsz hsh h
  obtain ⟨x0, x1, x2, x3⟩ := hA.two
  obtain ⟨y0, y1, y2, y3⟩ := hX.four
  go_enter Try.func19, Try.ntmps19
  go_wp2_with fail
  clear hW
  refine (ref_Plan a d _ _ (fun k => F k ∧ k < w.heap.size) _ ⟨_, _, rfl, okBBB.grow hD hB, okIs.grow hI hB⟩ ⟨_, rfl, okB.grow hdv hB⟩ HS.out).mono ?_
  rintro e w2 ⟨v2, rfl, ⟨cv, rfl, hr2⟩, hb2⟩
  obtain ⟨Ac, cc, rfl, _, _⟩ := hr2.shape
  have hal := below_alloc w2 (.cells #[.int .i64 (planA a.disks d).1.1, .slice Ac (planA a.disks d).1.2.length cc] 46)
  have hX3 := boxAt_new w2 46 [.int .i64 (planA a.disks d).1.1, .slice Ac (planA a.disks d).1.2.length cc]
  have hb3 := hb2.trans (hal.mono hb2.size)
  have hB3 := hB.trans (hb3.mono hB.size)
  have hA3 := hA.grow hb3
  have hZ3 := hZ.grow hb3
  have hr3 := okBB.mono (okBB.grow (okBB.lt hr2) hal) (F' := fun k => F k ∧ k < w.heap.size ∨ w.heap.size + 3 ≤ k) fun k hk => by have := HSZ.out; omega
  have hAr : RdA _ (fun k => F k ∧ k < w.heap.size ∨ w.heap.size + 3 ≤ k) (.agg #[.slice (some ⟨b0, o0, none⟩) 4 c0, .slice Ai a.ints.length ci]) a := ⟨_, _, rfl, okBBB.mono (okBBB.grow hD hB3) fun _ hk => .inl hk, okIs.mono (okIs.grow hI hB3) fun _ hk => .inl hk⟩
  obtain ⟨w3, hw3⟩ : ∃ x, w2.alloc (.cells #[.int .i64 (planA a.disks d).1.1, .slice Ac (planA a.disks d).1.2.length cc] 46) = x := ⟨_, rfl⟩
  change BoxAt (w2.alloc (.cells #[.int .i64 (planA a.disks d).1.1, .slice Ac (planA a.disks d).1.2.length cc] 46)) _ _ _ at hX3
  rw [hw3] at hX3 hB3 hA3 hZ3 hr3 hAr
  have HA3 := Lib.hid hA3
  have HB3 := Lib.hid hB3
  have HZ3 := Lib.hid hZ3
  have HR3 := Lib.hid hr3
  have HAr := Lib.hid hAr
  have HX3 := Lib.hid hX3
  clear hal hX3 hb3 hB3 hA3 hZ3 hr3 hAr hb2 hr2 hA hX hZ hB hD hI hdv x0 x1 x2 x3 y0 y1 y2 y3
  by_cases he : (planA a.disks d).2 = 0
  · have HP := Lib.hid (doA_ok he)
    obtain ⟨i1, i2, i3, i4⟩ := intOk_plan HS.out he
    rw [he]
    clear he
    generalize (planA a.disks d).1 = i at *
    rw [i3] at HR3 HX3 hw3 ⊢
    have HI1 := Lib.hid i1
    clear i1
    obtain ⟨x0, x1, x2, x3⟩ := HA3.out.two
    obtain ⟨y0, y1, y2, y3⟩ := HX3.out.two
    go_wp2_with fail
    refine (ref_Write a i 6 _ _ (fun k => F k ∧ k < w.heap.size ∨ w.heap.size + 3 ≤ k) _ HAr.out ⟨_, rfl, HR3.out⟩ HS.out HI1.out i2 i3 i4).mono ?_
    rintro e w4 ⟨v4, rfl, hr4, hb4⟩
    have hsh4 : Shape (writeR a i 6).disks := putTo_shape HS.out _ i4 4
    obtain ⟨b5, o5, c5, A5, c6, rfl, _, _, _, _⟩ := RdA_open hr4 hsh4
    have hZ4 := HZ3.out.grow hb4
    obtain ⟨z0, z1, z2, z3⟩ := hZ4.two
    have hsz3 := HZ3.out.lt
    have H := Lib.hid (ret_box (F' := fun k => F k ∨ w.heap.size ≤ k) hZ4 (HB3.out.trans (hb4.mono HB3.out.size)) (by omega) hr4 (fun k hk => by omega) fun k hk => by rcases hk with (hk | hk) | hk; exact .inl hk.1; exact .inr (by omega); exact .inr (by omega))
    clear hZ4 hb4 hr4 x0 x1 x2 x3 y0 y1 y2 y3
    go_wp2_with fail
    exact bodyPost_ret (v := .tuple #[.agg #[.slice (some ⟨b5, o5, none⟩) 4 c5, .slice A5 (writeR a i 6).ints.length c6], .int .i64 0]) (by simp [results, Try.results19, go_sem, *]) rfl (by rw [HP.out]; exact ⟨_, rfl, H.out.1, H.out.2⟩)
  · have HP := Lib.hid (doA_bad he)
    have hne : ((planA a.disks d).2 != 0) = true := by simpa using he
    clear he
    generalize (planA a.disks d).2 = q at *
    generalize (planA a.disks d).1 = i at *
    obtain ⟨x0, x1, x2, x3⟩ := HA3.out.two
    obtain ⟨z0, z1, z2, z3⟩ := HZ3.out.two
    have H := Lib.hid (ret_box (F' := fun k => F k ∨ w.heap.size ≤ k) HZ3.out HB3.out (by omega) HAr.out (fun k hk => by omega) fun k hk => hk.elim (fun h => .inl h.1) fun h => .inr (by omega))
    go_wp2_with fail
    exact bodyPost_ret (v := .tuple #[.agg #[.slice (some ⟨b0, o0, none⟩) 4 c0, .slice Ai a.ints.length ci], .int .i64 q]) (by simp [results, Try.results19, go_sem, *]) rfl (by rw [HP.out]; exact ⟨_, rfl, H.out.1, H.out.2⟩)
end Go.Proofs.Ytoendmbgfbhidaa

namespace Go.Proofs.Ytoendmbgfbhidaa
set_option linter.unusedVariables false
open Go Go.RowKit M
set_option maxRecDepth 100000 in
set_option maxHeartbeats 4000000 in
theorem ref_Mend (a : Arr) (s : Int) (v : Value) (F : Fp) (w : World) (h : RdA w F v a) (hsh : Shape a.disks) :
    Calls Try.prog 75 #[v, .int .i64 s] w fun e w' => ∃ v', e = .returned (.tuple #[v', .int .i64 (mendA a s).2.1, .int .i64 (mendA a s).2.2]) ∧ RdA w' (fun k => F k ∨ w.heap.size ≤ k) v' (mendA a s).1 ∧ Below w.heap.size w w' := by
  obtain ⟨b0, o0, c0, Ai, ci, rfl, hD, hI, hc0, hc1⟩ := RdA_open h hsh
  obtain ⟨hA, hZ, hB, hsz⟩ := two_boxes w (.slice (some ⟨b0, o0, none⟩) 4 c0) (.slice Ai a.ints.length ci) 30
  have hAr : RdA _ (fun k => F k ∧ k < w.heap.size ∨ w.heap.size + 2 ≤ k) (.agg #[.slice (some ⟨b0, o0, none⟩) 4 c0, .slice Ai a.ints.length ci]) a := ⟨_, _, rfl, okBBB.mono (okBBB.grow hD hB) fun _ hk => .inl hk, okIs.mono (okIs.grow hI hB) fun _ hk => .inl hk⟩
  have HSZ := Lib.hid hsz
  have HS := Lib.hid hsh
  obtain ⟨x0, x1, x2, x3⟩ := hA.two
  by_cases hs : s < 0 ∨ 3 ≤ s
  · have HP := Lib.hid (mend_out (a := a) hs)
    have hB0 := below_alloc w (.cells #[.slice (some ⟨b0, o0, none⟩) 4 c0, .slice Ai a.ints.length ci] 30)
    have hB2 := hB0.trans ((below_alloc (w.alloc (.cells #[.slice (some ⟨b0, o0, none⟩) 4 c0, .slice Ai a.ints.length ci] 30)) (.cells #[.slice (some ⟨b0, o0, none⟩) 4 c0, .slice Ai a.ints.length ci] 30)).mono hB0.size)
    have hA2 : RdA _ (fun k => F k ∨ w.heap.size ≤ k) _ a := RdA.mono (F := fun k => F k ∧ k < w.heap.size) ⟨_, _, rfl, okBBB.grow hD hB2, okIs.grow hI hB2⟩ fun k hk => .inl hk.1
    obtain ⟨z0, z1, z2, z3⟩ := hZ.two
    have H := Lib.hid (And.intro hA2 hB2)
    clear hA hZ hB hsz hAr h hD hI hsh hB0 hB2 hA2
    rcases hs with hs | hs
    · go_enter Try.func75, Try.ntmps75
      go_wp2_with fail
      exact bodyPost_ret (v := .tuple #[.agg #[.slice (some ⟨b0, o0, none⟩) 4 c0, .slice Ai a.ints.length ci], .int .i64 0, .int .i64 3]) (by simp [results, Try.results75, go_sem, *]) rfl (by rw [HP.out]; exact ⟨_, rfl, H.out.1, H.out.2⟩)
    · have d1 : decide (2 < s) = true := by simp; omega
      have d2 : decide (s < 0) = false := by simp; omega
      go_enter Try.func75, Try.ntmps75
      go_wp2_with fail
      exact bodyPost_ret (v := .tuple #[.agg #[.slice (some ⟨b0, o0, none⟩) 4 c0, .slice Ai a.ints.length ci], .int .i64 0, .int .i64 3]) (by simp [results, Try.results75, go_sem, *]) rfl (by rw [HP.out]; exact ⟨_, rfl, H.out.1, H.out.2⟩)
  obtain ⟨s, rfl⟩ := Int.eq_ofNat_of_zero_le (show 0 ≤ s by omega)
  have hs3 : s < 3 := by omega
  have d1 : decide (2 < (s : Int)) = false := by simp; omega
  have d2 : decide ((s : Int) < 0) = false := by simp
  have HA := Lib.hid hA
  have HZ := Lib.hid hZ
  have HB := Lib.hid hB
  have HAr := Lib.hid hAr
  have ML := Lib.hid (@mend_lost a s hs3)
  have MH := Lib.hid (@mend_had a s hs3)
  clear hA hZ hB hsz hAr h hD hI hsh hs
  go_enter Try.func75, Try.ntmps75
  go_wp2_with fail
  generalize (w.alloc (.cells #[.slice (some ⟨b0, o0, none⟩) 4 c0, .slice Ai a.ints.length ci] 30)).alloc (.cells #[.slice none 0 0, .slice none 0 0] 30) = w1 at *
  refine (ref_Cells a s _ _ _ HAr.out HS.out hs3).mono ?_
  rintro e w2 ⟨v2, rfl, hv2, hb2⟩
  have hr2 := hv2.toRd_ okB
  have HL := Lib.hid (show (cellsA a.disks s).length = 4 by rw [cellsA_len, HS.out.1])
  clear hv2
  go_wp2_with fail
  refine (ref_Bad _ s _ _ _ hr2 (by rw [HL.out]; decide)).mono ?_
  rintro e w3 ⟨v3, rfl, hv3, hb3⟩
  obtain ⟨A3, c3, rfl, _, _⟩ := (hv3.toRd_ okI).shape
  rw [ints_len]
  have hr3 := okBB.grow hr2 hb3
  clear hv3 hr2
  go_wp2_with fail
  refine (ref_Data (cellsA a.disks s) s _ _ _ hr3 (by rw [HL.out]; decide)).mono ?_
  rintro e w4 ⟨v4, rfl, hv4, hb4⟩
  have hb24 := hb2.trans ((hb3.trans (hb4.mono hb3.size)).mono hb2.size)
  have HA4 := Lib.hid (HA.out.grow hb24)
  have HZ4 := Lib.hid (HZ.out.grow hb24)
  have HB4 := Lib.hid (HB.out.trans (hb24.mono HB.out.size))
  have HAr4 := Lib.hid (HAr.out.grow hb24)
  clear hb2 hb3 hb4 hb24 hr3 HA HZ HB HAr x0 x1 x2 x3
  by_cases h9 : (dataL (cellsA a.disks s) s).2 = 0
  rotate_left
  · have HP := Lib.hid (ML.out h9)
    obtain ⟨x0, x1, x2, x3⟩ := HA4.out.two
    obtain ⟨z0, z1, z2, z3⟩ := HZ4.out.two
    have H := Lib.hid (ret_box (F' := fun k => F k ∨ w.heap.size ≤ k) HZ4.out HB4.out (by omega) HAr4.out (fun k hk => by omega) fun k hk => hk.elim (fun h => .inl h.1) fun h => .inr (by omega))
    have hne : ((dataL (cellsA a.disks s) s).2 != 0) = true := by simpa using h9
    clear h9 hv4 ML MH
    generalize (dataL (cellsA a.disks s) s).2 = q at *
    go_wp2_with fail
    exact bodyPost_ret (v := .tuple #[.agg #[.slice (some ⟨b0, o0, none⟩) 4 c0, .slice Ai a.ints.length ci], .int .i64 ((badL (cellsA a.disks s) s).length : Nat), .int .i64 q]) (by simp [results, Try.results75, go_sem, *]) rfl (by rw [HP.out]; exact ⟨_, rfl, H.out.1, H.out.2⟩)
  have HP := Lib.hid (MH.out h9)
  obtain ⟨q1, q2, _⟩ := data_blocks h9
  rw [HL.out] at q1
  rw [h9]
  have hr4 := hv4.toRd_ okB
  clear h9 ML MH hv4
  obtain ⟨D, hDD⟩ : ∃ D, (dataL (cellsA a.disks s) s).1 = D := ⟨_, rfl⟩
  rw [hDD] at q1 q2 hr4 HP
  obtain ⟨A4, c4, rfl, _, _⟩ := hr4.shape
  rw [q1] at hr4 ⊢
  have HQ2 := Lib.hid q2
  have hml : (makeL D s).length = 4 := by rw [makeL_len, q1]
  have HML := Lib.hid (make_lens q2 s)
  generalize (badL (cellsA a.disks s) s).length = nb at *
  clear hDD
  go_wp2_with fail
  refine (ref_Make D s _ _ _ hr4 (by omega) (by rw [q1]; decide) q2).mono ?_
  rintro e w5 ⟨v5, rfl, hv5, hb5⟩
  have hr5 := hv5.toRd okB (R' := RdB) (fun h => h) okB
  generalize makeL D s = M at *
  obtain ⟨b5, o5, c5, rfl, _, _, hc5, hc5m⟩ := hr5.form (by omega)
  unfold maxLen at hc5m
  rw [hml] at hr5 hc5 ⊢
  have HB5 := Lib.hid (HB4.out.trans (hb5.mono HB4.out.size))
  have HR5 := Lib.hid (okBB.lt hr5)
  have HA5 := Lib.hid (HA4.out.grow hb5)
  have HZ5 := Lib.hid (HZ4.out.grow hb5)
  have HAr5 := Lib.hid (HAr4.out.grow hb5)
  have hs4 : w.heap.size + 2 ≤ w4.heap.size := by have := HZ4.out.lt; omega
  have hs45 := hb5.size
  clear hr5 hr4 hv5 hb5 q2 HA4 HZ4 HB4 HAr4
  go_wp2_with fail
  rename World => w5
  go_loopw [42] (fun i wr => ∃ k : Nat, k ≤ 4 ∧ i = .int .i64 k ∧ (∃ dv iv, BoxAt wr w.heap.size 30 [dv, iv] ∧ RdA wr (fun k => F k ∧ k < w.heap.size ∨ w.heap.size + 2 ≤ k) (.agg #[dv, iv]) ⟨putTo a.disks s M k, a.ints⟩) ∧ BoxAt wr (w.heap.size + 1) 30 [.slice none 0 0, .slice none 0 0] ∧ RdBB wr (fun k => w4.heap.size ≤ k ∧ k < w5.heap.size) (.slice (some ⟨b5, o5, none⟩) 4 c5) M ∧ Below w.heap.size w wr ∧ w.heap.size + 2 ≤ wr.heap.size) (fun i _ => 4 - (intOf i).toNat)
  case atStart => exact ⟨0, Nat.zero_le _, rfl, ⟨_, _, HA5.out, HAr5.out⟩, HZ5.out, HR5.out, HB5.out, by omega⟩
  case round =>
    obtain ⟨k, hk, rfl, ⟨dv, iv, hA2, hR2⟩, hZ2, hM2, hB2, hs2⟩ := hrel
    have hskm : Shape (putTo a.disks s M k) := putTo_shape HS.out s HML.out k
    obtain ⟨b1, o1, c1, A1, c2, hag, _, _, hc11, hc12⟩ := RdA_open hR2 hskm
    injection hag with hag
    simp only [Array.mk.injEq, List.cons.injEq, and_true] at hag
    obtain ⟨rfl, rfl⟩ := hag
    obtain ⟨x0, x1, x2, x3⟩ := hA2.two
    by_cases hlt : k < 4
    · have hkm : k < M.length := by omega
      obtain ⟨u, hu, hRu⟩ := RdL_q hM2 (k := k) (x := M[k]) (List.getElem?_eq_getElem hkm)
      obtain ⟨Ax, cx, rfl, _, _⟩ := hRu.shape
      have HN := Lib.hid (show putTo a.disks s M (k + 1) = setA (putTo a.disks s M k) k s M[k] by rw [putTo_next]; simp [List.getD, List.getElem?_eq_getElem hkm])
      have HX := Lib.hid (And.intro hR2 (okB.mono hRu (F' := fun k => F k ∧ k < w.heap.size ∨ w.heap.size + 2 ≤ k) fun k hk => .inr (by omega)))
      have H1 := Lib.hid (And.intro hA2 (And.intro hZ2 (And.intro hM2 (And.intro hB2 hs2))))
      have HSK := Lib.hid hskm
      clear hA2 hR2 hZ2 hM2 hB2 hs2 hRu hskm
      go_wp2_with fail
      refine (ref_with ⟨putTo a.disks s M k, a.ints⟩ k s M[k] _ _ _ _ HX.out.1 HX.out.2 HSK.out hlt hs3).mono ?_
      rintro e w6 ⟨v6, rfl, hr6, hb6⟩
      rw [← HN.out] at hr6
      have hsh6 : Shape (putTo a.disks s M (k + 1)) := putTo_shape HS.out s HML.out (k + 1)
      obtain ⟨b7, o7, c7, A7, c8, rfl, _, _, _, _⟩ := RdA_open hr6 hsh6
      have hA6 := H1.out.1.grow hb6
      have hZ6 := H1.out.2.1.grow hb6
      obtain ⟨z0, z1, z2, z3⟩ := hA6.two
      have g1 : BoxAt (set2 w6 w.heap.size (.slice (some ⟨b7, o7, none⟩) 4 c7) (.slice A7 a.ints.length c8)) _ _ _ := hA6.put2
      have g2 : BoxAt (set2 w6 w.heap.size (.slice (some ⟨b7, o7, none⟩) 4 c7) (.slice A7 a.ints.length c8)) _ _ _ := hZ6.far2 (by omega)
      have g3 : RdA (set2 w6 w.heap.size (.slice (some ⟨b7, o7, none⟩) 4 c7) (.slice A7 a.ints.length c8)) _ _ _ := hr6.set2 (b := w.heap.size) fun k hk => by have := H1.out.2.2.2.2; rcases hk with (hk | hk) | hk <;> omega
      have g4 := (H1.out.2.2.2.1.trans (hb6.mono H1.out.2.2.2.1.size)).trans (below_set2 (b := w.heap.size) (v0 := .slice (some ⟨b7, o7, none⟩) 4 c7) (v1 := .slice A7 a.ints.length c8) (Nat.le_refl _))
      have g5 : RdBB (set2 w6 w.heap.size (.slice (some ⟨b7, o7, none⟩) 4 c7) (.slice A7 a.ints.length c8)) _ _ _ := okBB.set2 (okBB.grow H1.out.2.2.1 hb6) (b := w.heap.size) fun k hk => by omega
      have g6 : w.heap.size + 2 ≤ (set2 w6 w.heap.size (.slice (some ⟨b7, o7, none⟩) 4 c7) (.slice A7 a.ints.length c8)).heap.size := by rw [set2_size]; exact Nat.le_trans H1.out.2.2.2.2 hb6.size
      have H := Lib.hid (And.intro g1 (And.intro (g3.mono (F' := fun k => F k ∧ k < w.heap.size ∨ w.heap.size + 2 ≤ k) fun k hk => hk.elim id fun h => .inr (Nat.le_trans H1.out.2.2.2.2 h)) (And.intro g2 (And.intro g5 (And.intro g4 g6)))))
      clear g1 g2 g3 g4 g5 g6 hr6 hb6 hA6 hZ6 x0 x1 x2 x3
      go_wp2_with fail
      go_roundw
      case rel => exact ⟨k + 1, by omega, by go_num, ⟨_, _, H.out.1, H.out.2.1⟩, H.out.2.2.1, H.out.2.2.2.1, H.out.2.2.2.2.1, H.out.2.2.2.2.2⟩
      case measure => simp [intOf]; omega
    · obtain rfl : k = 4 := by omega
      obtain ⟨z0, z1, z2, z3⟩ := hZ2.two
      have H := Lib.hid (ret_box (F' := fun k => F k ∨ w.heap.size ≤ k) hZ2 hB2 (by omega) hR2 (fun k hk => by omega) fun k hk => hk.elim (fun h => .inl h.1) fun h => .inr (by omega))
      clear hA2 hR2 hZ2 hM2 hB2 hskm
      go_wp2_with fail
      exact bodyPost_ret (v := .tuple #[.agg #[.slice (some ⟨b1, o1, none⟩) 4 c1, .slice A1 a.ints.length c2], .int .i64 (nb : Nat), .int .i64 0]) (by simp [results, Try.results75, go_sem, *]) rfl (by rw [HP.out]; exact ⟨_, rfl, H.out.1, H.out.2⟩)
end Go.Proofs.Ytoendmbgfbhidaa

namespace Go.Proofs.Ytoendmbgfbhidaa
set_option linter.unusedVariables false
open Go Go.RowKit M
/-- A step, as a value of seven cells. -/
def RdSt (w : World) (F : Fp) (v : Value) (s : Step) : Prop := ∃ dv, v = .agg #[.int .i64 s.kind, .int .i64 s.n, .int .i64 s.m, .int .i64 s.deed.kind, .int .i64 s.deed.n, .int .i64 s.deed.m, dv] ∧ s.n ≤ 9223372036854775807 ∧ RdB w F dv s.deed.data
theorem quo3 {n : Int} (h0 : 0 ≤ n) (h1 : n ≤ 9223372036854775807) : wrap64 (n.tdiv 3) = n / 3 := by
  rw [Int.tdiv_eq_ediv_of_nonneg h0]
  unfold wrap64
  omega
theorem M.BoxAt.seven {w : World} {b : Nat} {T : TypeId} {a0 a1 a2 a3 a4 a5 a6 : Value} (h : BoxAt w b T [a0, a1, a2, a3, a4, a5, a6]) : w.cell? ⟨b, 0, none⟩ = some a0 ∧ w.cell? ⟨b, 1, none⟩ = some a1 ∧ w.cell? ⟨b, 2, none⟩ = some a2 ∧ w.cell? ⟨b, 3, none⟩ = some a3 ∧ w.cell? ⟨b, 4, none⟩ = some a4 ∧ w.cell? ⟨b, 5, none⟩ = some a5 ∧ w.cell? ⟨b, 6, none⟩ = some a6 :=
  ⟨h.cell 0, h.cell 1, h.cell 2, h.cell 3, h.cell 4, h.cell 5, h.cell 6⟩
theorem doA_shape {a : Arr} (h : Shape a.disks) (d : Deed) : Shape (doA a d).1.disks := by
  by_cases he : (planA a.disks d).2 = 0
  · rw [doA_ok he]; exact putTo_shape h _ (intOk_plan h he).2.2.2 4
  · rw [doA_bad he]; exact h
theorem rot_shape {a : Arr} (h : Shape a.disks) (d s n : Int) : Shape (rotA a d s n).1.disks := (rot_back h d s n).2.2
theorem writeR_ints {a : Arr} (h : a.ints = []) {i : Int × List Bs} (hi : IntOk i) (n : Int) : (∀ j ∈ (writeR a i n).ints, IntOk j) ∧ (writeR a i n).ints.length ≤ 1 := by
  unfold writeR writeK
  simp only []
  split
  · exact ⟨fun j hj => (List.not_mem_nil hj).elim, Nat.zero_le _⟩
  · split
    · exact ⟨fun j hj => by rw [List.mem_singleton] at hj; rw [hj]; exact hi, Nat.le_refl _⟩
    · rw [h]; exact ⟨fun j hj => (List.not_mem_nil hj).elim, Nat.zero_le _⟩
theorem writeR_shape {a : Arr} (h : Shape a.disks) {i : Int × List Bs} (hi : IntOk i) (n : Int) : Shape (writeR a i n).disks := putTo_shape h _ hi.2.2.2 _
set_option maxRecDepth 100000 in
set_option maxHeartbeats 1600000 in
theorem ref_Step_deed (a : Arr) (s : Step) (v vs : Value) (F : Fp) {F2 : Fp} (w : World) (h : RdA w F v a) (hs : RdSt w F2 vs s) (hsh : Shape a.disks) (hno : a.ints = []) (hk : s.kind = 1) :
    Calls Try.prog 45 #[v, vs] w fun e w' => ∃ v', e = .returned (.tuple #[v', .int .i64 (stepR a s).2]) ∧ RdA w' (fun k => F k ∨ w.heap.size ≤ k) v' (stepR a s).1 ∧ Below w.heap.size w w' := by
  obtain ⟨b0, o0, c0, Ai, ci, rfl, hD, hI, hc0, hc1⟩ := RdA_open h hsh
  obtain ⟨dv, rfl, hsn, hdv⟩ := hs
  replace hdv := okB.lt hdv
  obtain ⟨Ad, cd, rfl, _, _⟩ := hdv.shape
  obtain ⟨w1, hW, hA, hX, hZ, hB, hsz⟩ := boxes3 w [.slice (some ⟨b0, o0, none⟩) 4 c0, .slice Ai a.ints.length ci] [.int .i64 s.kind, .int .i64 s.n, .int .i64 s.m, .int .i64 s.deed.kind, .int .i64 s.deed.n, .int .i64 s.deed.m, .slice Ad s.deed.data.length cd] [.slice none 0 0, .slice none 0 0] 30 68 30
  change (((w.alloc (.cells #[.slice (some ⟨b0, o0, none⟩) 4 c0, .slice Ai a.ints.length ci] 30)).alloc (.cells #[.int .i64 s.kind, .int .i64 s.n, .int .i64 s.m, .int .i64 s.deed.kind, .int .i64 s.deed.n, .int .i64 s.deed.m, .slice Ad s.deed.data.length cd] 68)).alloc (.cells #[.slice none 0 0, .slice none 0 0] 30)) = w1 at hW
  have HP := Lib.hid (show stepR a s = doA a s.deed by unfold stepR stepK; rw [if_pos hk])
  rw [hk] at hX hW ⊢
  have hAr : RdA w1 (fun k => F k ∧ k < w.heap.size ∨ w.heap.size + 3 ≤ k) (.agg #[.slice (some ⟨b0, o0, none⟩) 4 c0, .slice Ai a.ints.length ci]) a := ⟨_, _, rfl, okBBB.mono (okBBB.grow hD hB) fun _ hk => .inl hk, okIs.mono (okIs.grow hI hB) fun _ hk => .inl hk⟩
  have hdd : RdD w1 (fun k => F2 k ∧ k < w.heap.size) (.agg #[.int .i64 s.deed.kind, .int .i64 s.deed.n, .int .i64 s.deed.m, .slice Ad s.deed.data.length cd]) s.deed := ⟨_, rfl, okB.grow hdv hB⟩
  have HSZ := Lib.hid hsz
  have HS := Lib.hid hsh
  have HNO := Lib.hid hno
  have HA := Lib.hid hA
  have HX := Lib.hid hX
  have HZ := Lib.hid hZ
  have HB := Lib.hid hB
  have HAr := Lib.hid hAr
  have HDD := Lib.hid hdd
  obtain ⟨x0, x1, x2, x3⟩ := hA.two
  obtain ⟨y0, y1, y2, y3, y4, y5, y6⟩ := hX.seven
  clear hsz hsh h hA hX hZ hB hAr hdd hdv hD hI hno
  go_enter Try.func45, Try.ntmps45
  go_wp2_with fail
  clear hW
  refine (ref_Do6 a s.deed _ _ _ _ HAr.out HDD.out HS.out).mono ?_
  rintro e w2 ⟨v2, rfl, hr2, hb2⟩
  have hsh2 := doA_shape HS.out s.deed
  obtain ⟨b5, o5, c5, A5, c6, rfl, _, _, _, _⟩ := RdA_open hr2 hsh2
  have hZ2 := HZ.out.grow hb2
  obtain ⟨z0, z1, z2, z3⟩ := hZ2.two
  have H := Lib.hid (ret_box (F' := fun k => F k ∨ w.heap.size ≤ k) hZ2 (HB.out.trans (hb2.mono HB.out.size)) (by omega) hr2 (fun k hk => by have := HSZ.out; omega) fun k hk => by have := HSZ.out; rcases hk with (hk | hk) | hk; exact .inl hk.1; exact .inr (by omega); exact .inr (by omega))
  clear hZ2 hb2 hr2 hsh2
  go_wp2_with fail
  exact bodyPost_ret (v := .tuple #[.agg #[.slice (some ⟨b5, o5, none⟩) 4 c5, .slice A5 (doA a s.deed).1.ints.length c6], .int .i64 (doA a s.deed).2]) (by simp [results, Try.results45, go_sem, *]) rfl (by rw [HP.out]; exact ⟨_, rfl, H.out.1, H.out.2⟩)
set_option maxRecDepth 100000 in
set_option maxHeartbeats 1600000 in
theorem ref_Step_fall (a : Arr) (s : Step) (v vs : Value) (F : Fp) {F2 : Fp} (w : World) (h : RdA w F v a) (hs : RdSt w F2 vs s) (hsh : Shape a.disks) (hno : a.ints = []) (hk : s.kind = 2) :
    Calls Try.prog 45 #[v, vs] w fun e w' => ∃ v', e = .returned (.tuple #[v', .int .i64 (stepR a s).2]) ∧ RdA w' (fun k => F k ∨ w.heap.size ≤ k) v' (stepR a s).1 ∧ Below w.heap.size w w' := by
  obtain ⟨b0, o0, c0, Ai, ci, rfl, hD, hI, hc0, hc1⟩ := RdA_open h hsh
  obtain ⟨dv, rfl, hsn, hdv⟩ := hs
  replace hdv := okB.lt hdv
  obtain ⟨Ad, cd, rfl, _, _⟩ := hdv.shape
  obtain ⟨w1, hW, hA, hX, hZ, hB, hsz⟩ := boxes3 w [.slice (some ⟨b0, o0, none⟩) 4 c0, .slice Ai a.ints.length ci] [.int .i64 s.kind, .int .i64 s.n, .int .i64 s.m, .int .i64 s.deed.kind, .int .i64 s.deed.n, .int .i64 s.deed.m, .slice Ad s.deed.data.length cd] [.slice none 0 0, .slice none 0 0] 30 68 30
  change (((w.alloc (.cells #[.slice (some ⟨b0, o0, none⟩) 4 c0, .slice Ai a.ints.length ci] 30)).alloc (.cells #[.int .i64 s.kind, .int .i64 s.n, .int .i64 s.m, .int .i64 s.deed.kind, .int .i64 s.deed.n, .int .i64 s.deed.m, .slice Ad s.deed.data.length cd] 68)).alloc (.cells #[.slice none 0 0, .slice none 0 0] 30)) = w1 at hW
  have HPB := Lib.hid (show (planA a.disks s.deed).2 ≠ 0 → stepR a s = (a, (planA a.disks s.deed).2) by intro h; unfold stepR stepK; rw [if_neg (by omega), if_pos hk, if_pos h])
  have HPG := Lib.hid (show (planA a.disks s.deed).2 = 0 → stepR a s = (mountA (writeR a (planA a.disks s.deed).1 s.n), 0) by intro h; unfold stepR stepK; rw [if_neg (by omega), if_pos hk, if_neg (by simpa using h)]; rfl)
  rw [hk] at hX hW ⊢
  have hAr : RdA w1 (fun k => F k ∧ k < w.heap.size ∨ w.heap.size + 3 ≤ k) (.agg #[.slice (some ⟨b0, o0, none⟩) 4 c0, .slice Ai a.ints.length ci]) a := ⟨_, _, rfl, okBBB.mono (okBBB.grow hD hB) fun _ hk => .inl hk, okIs.mono (okIs.grow hI hB) fun _ hk => .inl hk⟩
  have hdd : RdD w1 (fun k => F2 k ∧ k < w.heap.size) (.agg #[.int .i64 s.deed.kind, .int .i64 s.deed.n, .int .i64 s.deed.m, .slice Ad s.deed.data.length cd]) s.deed := ⟨_, rfl, okB.grow hdv hB⟩
  have HSZ := Lib.hid hsz
  have HS := Lib.hid hsh
  have HNO := Lib.hid hno
  have HA := Lib.hid hA
  have HX := Lib.hid hX
  have HZ := Lib.hid hZ
  have HB := Lib.hid hB
  have HAr := Lib.hid hAr
  have HDD := Lib.hid hdd
  obtain ⟨x0, x1, x2, x3⟩ := hA.two
  obtain ⟨y0, y1, y2, y3, y4, y5, y6⟩ := hX.seven
  clear hsz hsh h hA hX hZ hB hAr hdd hdv hD hI hno
  go_enter Try.func45, Try.ntmps45
  go_wp2_with fail
  clear hW
  refine (ref_Plan a s.deed _ _ _ _ HAr.out HDD.out HS.out).mono ?_
  rintro e w2 ⟨v2, rfl, ⟨cv, rfl, hr2⟩, hb2⟩
  obtain ⟨Ac, cc, rfl, _, _⟩ := hr2.shape
  have hal := below_alloc w2 (.cells #[.int .i64 (planA a.disks s.deed).1.1, .slice Ac (planA a.disks s.deed).1.2.length cc] 46)
  have hI3 := boxAt_new w2 46 [.int .i64 (planA a.disks s.deed).1.1, .slice Ac (planA a.disks s.deed).1.2.length cc]
  have hb3 := hb2.trans (hal.mono hb2.size)
  have hB3 := HB.out.trans (hb3.mono HB.out.size)
  have hA3 := HA.out.grow hb3
  have hX3 := HX.out.grow hb3
  have hZ3 := HZ.out.grow hb3
  have hr3 := okBB.mono (okBB.grow (okBB.lt hr2) hal) (F' := fun k => F k ∧ k < w.heap.size ∨ w.heap.size + 3 ≤ k) fun k hk => by have := HSZ.out; omega
  have hAr3 := HAr.out.grow hb3
  obtain ⟨w3, hw3⟩ : ∃ x, w2.alloc (.cells #[.int .i64 (planA a.disks s.deed).1.1, .slice Ac (planA a.disks s.deed).1.2.length cc] 46) = x := ⟨_, rfl⟩
  change BoxAt (w2.alloc (.cells #[.int .i64 (planA a.disks s.deed).1.1, .slice Ac (planA a.disks s.deed).1.2.length cc] 46)) _ _ _ at hI3
  rw [hw3] at hI3 hB3 hA3 hX3 hZ3 hr3 hAr3
  replace HA := Lib.hid hA3
  replace HX := Lib.hid hX3
  replace HB := Lib.hid hB3
  replace HZ := Lib.hid hZ3
  replace HAr := Lib.hid hAr3
  have HR3 := Lib.hid hr3
  have HI3 := Lib.hid hI3
  clear hal hI3 hb3 hB3 hA3 hX3 hZ3 hr3 hAr3 hb2 hr2 x0 x1 x2 x3 y0 y1 y2 y3 y4 y5 y6
  have hs3 := HZ.out.lt
  by_cases he : (planA a.disks s.deed).2 = 0
  · have HP := Lib.hid (HPG.out he)
    have HIO := Lib.hid (intOk_plan HS.out he)
    have i3 := HIO.out.2.2.1
    rw [he]
    clear he HPG HPB
    generalize (planA a.disks s.deed).1 = i at *
    rw [i3] at HR3 HI3 hw3 ⊢
    obtain ⟨x0, x1, x2, x3⟩ := HA.out.two
    obtain ⟨y0, y1, y2, y3, y4, y5, y6⟩ := HX.out.seven
    obtain ⟨q0, q1, q2, q3⟩ := HI3.out.two
    go_wp2_with fail
    refine (ref_Write a i s.n _ _ (fun k => F k ∧ k < w.heap.size ∨ w.heap.size + 3 ≤ k) _ HAr.out ⟨_, rfl, HR3.out⟩ HS.out HIO.out.1 HIO.out.2.1 HIO.out.2.2.1 HIO.out.2.2.2).mono ?_
    rintro e w4 ⟨v4, rfl, hr4, hb4⟩
    have hsh4 := writeR_shape HS.out HIO.out s.n
    obtain ⟨hin, hil⟩ := writeR_ints HNO.out HIO.out s.n
    obtain ⟨b7, o7, c7, A7, c8, rfl, _, _, _, _⟩ := RdA_open hr4 hsh4
    have hr4' := hr4.mono (F' := fun k => F k ∧ k < w.heap.size ∨ w.heap.size + 3 ≤ k) fun k hk => hk.elim id fun h => .inr (by omega)
    clear hr4
    replace HZ := Lib.hid (HZ.out.grow hb4)
    replace HB := Lib.hid (HB.out.trans (hb4.mono HB.out.size))
    have hs4 := HZ.out.lt
    clear hb4 x0 x1 x2 x3 y0 y1 y2 y3 y4 y5 y6 q0 q1 q2 q3 HAr HA HX
    generalize writeR a i s.n = b at *
    go_wp2_with fail
    refine (ref_Mount b _ _ _ hr4' hsh4 hin (by omega)).mono ?_
    rintro e w2 ⟨v2, rfl, hr2, hb2⟩
    have hsh2 : Shape (mountA b).disks := mountTo_shape hsh4 hin _
    clear hin hil
    obtain ⟨b5, o5, c5, A5, c6, rfl, _, _, _, _⟩ := RdA_open hr2 hsh2
    have hZ2 := HZ.out.grow hb2
    obtain ⟨z0, z1, z2, z3⟩ := hZ2.two
    have H := Lib.hid (ret_box (F' := fun k => F k ∨ w.heap.size ≤ k) hZ2 (HB.out.trans (hb2.mono HB.out.size)) (by omega) hr2 (fun k hk => by omega) fun k hk => by rcases hk with (hk | hk) | hk; exact .inl hk.1; exact .inr (by omega); exact .inr (by omega))
    clear hZ2 hb2 hr2 hsh2
    go_wp2_with fail
    exact bodyPost_ret (v := .tuple #[.agg #[.slice (some ⟨b5, o5, none⟩) 4 c5, .slice A5 (mountA b).ints.length c6], .int .i64 0]) (by simp [results, Try.results45, go_sem, *]) rfl (by rw [HP.out]; exact ⟨_, rfl, H.out.1, H.out.2⟩)
  · have HP := Lib.hid (HPB.out he)
    have hne : ((planA a.disks s.deed).2 != 0) = true := by simpa using he
    clear he HPG HPB
    generalize (planA a.disks s.deed).2 = q at *
    generalize (planA a.disks s.deed).1 = i at *
    obtain ⟨x0, x1, x2, x3⟩ := HA.out.two
    obtain ⟨z0, z1, z2, z3⟩ := HZ.out.two
    have H := Lib.hid (ret_box (F' := fun k => F k ∨ w.heap.size ≤ k) HZ.out HB.out (by omega) HAr.out (fun k hk => by omega) fun k hk => hk.elim (fun h => .inl h.1) fun h => .inr (by omega))
    go_wp2_with fail
    exact bodyPost_ret (v := .tuple #[.agg #[.slice (some ⟨b0, o0, none⟩) 4 c0, .slice Ai a.ints.length ci], .int .i64 q]) (by simp [results, Try.results45, go_sem, *]) rfl (by rw [HP.out]; exact ⟨_, rfl, H.out.1, H.out.2⟩)
set_option maxRecDepth 100000 in
set_option maxHeartbeats 1600000 in
theorem ref_Step_rot (a : Arr) (s : Step) (v vs : Value) (F : Fp) {F2 : Fp} (w : World) (h : RdA w F v a) (hs : RdSt w F2 vs s) (hsh : Shape a.disks) (hno : a.ints = []) (hk : s.kind = 3) :
    Calls Try.prog 45 #[v, vs] w fun e w' => ∃ v', e = .returned (.tuple #[v', .int .i64 (stepR a s).2]) ∧ RdA w' (fun k => F k ∨ w.heap.size ≤ k) v' (stepR a s).1 ∧ Below w.heap.size w w' := by
  obtain ⟨b0, o0, c0, Ai, ci, rfl, hD, hI, hc0, hc1⟩ := RdA_open h hsh
  obtain ⟨dv, rfl, hsn, hdv⟩ := hs
  replace hdv := okB.lt hdv
  obtain ⟨Ad, cd, rfl, _, _⟩ := hdv.shape
  obtain ⟨w1, hW, hA, hX, hZ, hB, hsz⟩ := boxes3 w [.slice (some ⟨b0, o0, none⟩) 4 c0, .slice Ai a.ints.length ci] [.int .i64 s.kind, .int .i64 s.n, .int .i64 s.m, .int .i64 s.deed.kind, .int .i64 s.deed.n, .int .i64 s.deed.m, .slice Ad s.deed.data.length cd] [.slice none 0 0, .slice none 0 0] 30 68 30
  change (((w.alloc (.cells #[.slice (some ⟨b0, o0, none⟩) 4 c0, .slice Ai a.ints.length ci] 30)).alloc (.cells #[.int .i64 s.kind, .int .i64 s.n, .int .i64 s.m, .int .i64 s.deed.kind, .int .i64 s.deed.n, .int .i64 s.deed.m, .slice Ad s.deed.data.length cd] 68)).alloc (.cells #[.slice none 0 0, .slice none 0 0] 30)) = w1 at hW
  have HPB := Lib.hid (show s.n < 0 → stepR a s = (a, 6) by intro h; unfold stepR stepK; rw [if_neg (by omega), if_neg (by omega), if_pos hk, if_pos h])
  have HPG := Lib.hid (show ¬ s.n < 0 → stepR a s = rotA a (s.n / 3) (s.n % 3) s.m by intro h; unfold stepR stepK; rw [if_neg (by omega), if_neg (by omega), if_pos hk, if_neg h])
  rw [hk] at hX hW ⊢
  have hAr : RdA w1 (fun k => F k ∧ k < w.heap.size ∨ w.heap.size + 3 ≤ k) (.agg #[.slice (some ⟨b0, o0, none⟩) 4 c0, .slice Ai a.ints.length ci]) a := ⟨_, _, rfl, okBBB.mono (okBBB.grow hD hB) fun _ hk => .inl hk, okIs.mono (okIs.grow hI hB) fun _ hk => .inl hk⟩
  have hdd : RdD w1 (fun k => F2 k ∧ k < w.heap.size) (.agg #[.int .i64 s.deed.kind, .int .i64 s.deed.n, .int .i64 s.deed.m, .slice Ad s.deed.data.length cd]) s.deed := ⟨_, rfl, okB.grow hdv hB⟩
  have HSZ := Lib.hid hsz
  have HS := Lib.hid hsh
  have HNO := Lib.hid hno
  have HA := Lib.hid hA
  have HX := Lib.hid hX
  have HZ := Lib.hid hZ
  have HB := Lib.hid hB
  have HAr := Lib.hid hAr
  have HDD := Lib.hid hdd
  obtain ⟨x0, x1, x2, x3⟩ := hA.two
  obtain ⟨y0, y1, y2, y3, y4, y5, y6⟩ := hX.seven
  clear hsz hsh h hA hX hZ hB hAr hdd hdv hD hI hno
  by_cases hn : s.n < 0
  · have HP := Lib.hid (HPB.out hn)
    have hs3 := HZ.out.lt
    go_enter Try.func45, Try.ntmps45
    obtain ⟨z0, z1, z2, z3⟩ := HZ.out.two
    have hsz1 := HSZ.out
    have H := Lib.hid (ret_box (F' := fun k => F k ∨ w.heap.size ≤ k) HZ.out HB.out (by omega) HAr.out (fun k hk => by omega) fun k hk => hk.elim (fun h => .inl h.1) fun h => .inr (by omega))
    clear hsz1
    go_wp2_with fail
    exact bodyPost_ret (v := .tuple #[.agg #[.slice (some ⟨b0, o0, none⟩) 4 c0, .slice Ai a.ints.length ci], .int .i64 6]) (by simp [results, Try.results45, go_sem, *]) rfl (by rw [HP.out]; exact ⟨_, rfl, H.out.1, H.out.2⟩)
  have HP := Lib.hid (HPG.out hn)
  clear HPB HPG
  go_enter Try.func45, Try.ntmps45
  go_wp2_with fail
  clear hW

  refine (ref_Rot a (s.n / 3) (s.n % 3) s.m _ _ _ HAr.out HS.out).mono ?_
  rintro e w2 ⟨v2, rfl, hr2, hb2⟩
  have hsh2 := rot_shape HS.out (s.n / 3) (s.n % 3) s.m
  obtain ⟨b5, o5, c5, A5, c6, rfl, _, _, _, _⟩ := RdA_open hr2 hsh2
  have hZ2 := HZ.out.grow hb2
  obtain ⟨z0, z1, z2, z3⟩ := hZ2.two
  have H := Lib.hid (ret_box (F' := fun k => F k ∨ w.heap.size ≤ k) hZ2 (HB.out.trans (hb2.mono HB.out.size)) (by omega) hr2 (fun k hk => by have := HSZ.out; omega) fun k hk => by have := HSZ.out; rcases hk with (hk | hk) | hk; exact .inl hk.1; exact .inr (by omega); exact .inr (by omega))
  clear hZ2 hb2 hr2 hsh2
  go_wp2_with fail
  exact bodyPost_ret (v := .tuple #[.agg #[.slice (some ⟨b5, o5, none⟩) 4 c5, .slice A5 (rotA a (s.n / 3) (s.n % 3) s.m).1.ints.length c6], .int .i64 (rotA a (s.n / 3) (s.n % 3) s.m).2]) (by simp [results, Try.results45, go_sem, *]) rfl (by rw [HP.out]; exact ⟨_, rfl, H.out.1, H.out.2⟩)
set_option maxRecDepth 100000 in
set_option maxHeartbeats 1600000 in
theorem ref_Step_gone (a : Arr) (s : Step) (v vs : Value) (F : Fp) {F2 : Fp} (w : World) (h : RdA w F v a) (hs : RdSt w F2 vs s) (hsh : Shape a.disks) (hno : a.ints = []) (hk : s.kind = 4) :
    Calls Try.prog 45 #[v, vs] w fun e w' => ∃ v', e = .returned (.tuple #[v', .int .i64 (stepR a s).2]) ∧ RdA w' (fun k => F k ∨ w.heap.size ≤ k) v' (stepR a s).1 ∧ Below w.heap.size w w' := by
  obtain ⟨b0, o0, c0, Ai, ci, rfl, hD, hI, hc0, hc1⟩ := RdA_open h hsh
  obtain ⟨dv, rfl, hsn, hdv⟩ := hs
  replace hdv := okB.lt hdv
  obtain ⟨Ad, cd, rfl, _, _⟩ := hdv.shape
  obtain ⟨w1, hW, hA, hX, hZ, hB, hsz⟩ := boxes3 w [.slice (some ⟨b0, o0, none⟩) 4 c0, .slice Ai a.ints.length ci] [.int .i64 s.kind, .int .i64 s.n, .int .i64 s.m, .int .i64 s.deed.kind, .int .i64 s.deed.n, .int .i64 s.deed.m, .slice Ad s.deed.data.length cd] [.slice none 0 0, .slice none 0 0] 30 68 30
  change (((w.alloc (.cells #[.slice (some ⟨b0, o0, none⟩) 4 c0, .slice Ai a.ints.length ci] 30)).alloc (.cells #[.int .i64 s.kind, .int .i64 s.n, .int .i64 s.m, .int .i64 s.deed.kind, .int .i64 s.deed.n, .int .i64 s.deed.m, .slice Ad s.deed.data.length cd] 68)).alloc (.cells #[.slice none 0 0, .slice none 0 0] 30)) = w1 at hW
  have HP := Lib.hid (show stepR a s = goneA a s.n by unfold stepR stepK; rw [if_neg (by omega), if_neg (by omega), if_neg (by omega), if_pos hk])
  rw [hk] at hX hW ⊢
  have hAr : RdA w1 (fun k => F k ∧ k < w.heap.size ∨ w.heap.size + 3 ≤ k) (.agg #[.slice (some ⟨b0, o0, none⟩) 4 c0, .slice Ai a.ints.length ci]) a := ⟨_, _, rfl, okBBB.mono (okBBB.grow hD hB) fun _ hk => .inl hk, okIs.mono (okIs.grow hI hB) fun _ hk => .inl hk⟩
  have hdd : RdD w1 (fun k => F2 k ∧ k < w.heap.size) (.agg #[.int .i64 s.deed.kind, .int .i64 s.deed.n, .int .i64 s.deed.m, .slice Ad s.deed.data.length cd]) s.deed := ⟨_, rfl, okB.grow hdv hB⟩
  have HSZ := Lib.hid hsz
  have HS := Lib.hid hsh
  have HNO := Lib.hid hno
  have HA := Lib.hid hA
  have HX := Lib.hid hX
  have HZ := Lib.hid hZ
  have HB := Lib.hid hB
  have HAr := Lib.hid hAr
  have HDD := Lib.hid hdd
  obtain ⟨x0, x1, x2, x3⟩ := hA.two
  obtain ⟨y0, y1, y2, y3, y4, y5, y6⟩ := hX.seven
  clear hsz hsh h hA hX hZ hB hAr hdd hdv hD hI hno
  go_enter Try.func45, Try.ntmps45
  go_wp2_with fail
  clear hW
  refine (ref_Gone a s.n _ _ _ HAr.out HS.out).mono ?_
  rintro e w2 ⟨v2, rfl, hr2, hb2⟩
  have hsh2 := gone_shape' HS.out s.n
  obtain ⟨b5, o5, c5, A5, c6, rfl, _, _, _, _⟩ := RdA_open hr2 hsh2
  have hZ2 := HZ.out.grow hb2
  obtain ⟨z0, z1, z2, z3⟩ := hZ2.two
  have H := Lib.hid (ret_box (F' := fun k => F k ∨ w.heap.size ≤ k) hZ2 (HB.out.trans (hb2.mono HB.out.size)) (by omega) hr2 (fun k hk => by have := HSZ.out; omega) fun k hk => by have := HSZ.out; rcases hk with (hk | hk) | hk; exact .inl hk.1; exact .inr (by omega); exact .inr (by omega))
  clear hZ2 hb2 hr2 hsh2
  go_wp2_with fail
  exact bodyPost_ret (v := .tuple #[.agg #[.slice (some ⟨b5, o5, none⟩) 4 c5, .slice A5 (goneA a s.n).1.ints.length c6], .int .i64 (goneA a s.n).2]) (by simp [results, Try.results45, go_sem, *]) rfl (by rw [HP.out]; exact ⟨_, rfl, H.out.1, H.out.2⟩)
set_option maxRecDepth 100000 in
set_option maxHeartbeats 1600000 in
theorem ref_Step_mend (a : Arr) (s : Step) (v vs : Value) (F : Fp) {F2 : Fp} (w : World) (h : RdA w F v a) (hs : RdSt w F2 vs s) (hsh : Shape a.disks) (hno : a.ints = []) (hk : s.kind = 5) :
    Calls Try.prog 45 #[v, vs] w fun e w' => ∃ v', e = .returned (.tuple #[v', .int .i64 (stepR a s).2]) ∧ RdA w' (fun k => F k ∨ w.heap.size ≤ k) v' (stepR a s).1 ∧ Below w.heap.size w w' := by
  obtain ⟨b0, o0, c0, Ai, ci, rfl, hD, hI, hc0, hc1⟩ := RdA_open h hsh
  obtain ⟨dv, rfl, hsn, hdv⟩ := hs
  replace hdv := okB.lt hdv
  obtain ⟨Ad, cd, rfl, _, _⟩ := hdv.shape
  obtain ⟨w1, hW, hA, hX, hZ, hB, hsz⟩ := boxes3 w [.slice (some ⟨b0, o0, none⟩) 4 c0, .slice Ai a.ints.length ci] [.int .i64 s.kind, .int .i64 s.n, .int .i64 s.m, .int .i64 s.deed.kind, .int .i64 s.deed.n, .int .i64 s.deed.m, .slice Ad s.deed.data.length cd] [.slice none 0 0, .slice none 0 0] 30 68 30
  change (((w.alloc (.cells #[.slice (some ⟨b0, o0, none⟩) 4 c0, .slice Ai a.ints.length ci] 30)).alloc (.cells #[.int .i64 s.kind, .int .i64 s.n, .int .i64 s.m, .int .i64 s.deed.kind, .int .i64 s.deed.n, .int .i64 s.deed.m, .slice Ad s.deed.data.length cd] 68)).alloc (.cells #[.slice none 0 0, .slice none 0 0] 30)) = w1 at hW
  have HP := Lib.hid (show stepR a s = ((mendA a s.n).1, (mendA a s.n).2.2) by unfold stepR stepK; rw [if_neg (by omega), if_neg (by omega), if_neg (by omega), if_neg (by omega), if_pos hk])
  rw [hk] at hX hW ⊢
  have hAr : RdA w1 (fun k => F k ∧ k < w.heap.size ∨ w.heap.size + 3 ≤ k) (.agg #[.slice (some ⟨b0, o0, none⟩) 4 c0, .slice Ai a.ints.length ci]) a := ⟨_, _, rfl, okBBB.mono (okBBB.grow hD hB) fun _ hk => .inl hk, okIs.mono (okIs.grow hI hB) fun _ hk => .inl hk⟩
  have hdd : RdD w1 (fun k => F2 k ∧ k < w.heap.size) (.agg #[.int .i64 s.deed.kind, .int .i64 s.deed.n, .int .i64 s.deed.m, .slice Ad s.deed.data.length cd]) s.deed := ⟨_, rfl, okB.grow hdv hB⟩
  have HSZ := Lib.hid hsz
  have HS := Lib.hid hsh
  have HNO := Lib.hid hno
  have HA := Lib.hid hA
  have HX := Lib.hid hX
  have HZ := Lib.hid hZ
  have HB := Lib.hid hB
  have HAr := Lib.hid hAr
  have HDD := Lib.hid hdd
  obtain ⟨x0, x1, x2, x3⟩ := hA.two
  obtain ⟨y0, y1, y2, y3, y4, y5, y6⟩ := hX.seven
  clear hsz hsh h hA hX hZ hB hAr hdd hdv hD hI hno
  go_enter Try.func45, Try.ntmps45
  go_wp2_with fail
  clear hW
  refine (ref_Mend a s.n _ _ _ HAr.out HS.out).mono ?_
  rintro e w2 ⟨v2, rfl, hr2, hb2⟩
  have hsh2 := mend_shape HS.out s.n
  obtain ⟨b7, o7, c7, A7, c8, rfl, _, _, _, _⟩ := RdA_open hr2 hsh2
  have hal := below_alloc w2 (.cells #[.slice (some ⟨b7, o7, none⟩) 4 c7, .slice A7 (mendA a s.n).1.ints.length c8] 30)
  have hM := boxAt_new w2 30 [.slice (some ⟨b7, o7, none⟩) 4 c7, .slice A7 (mendA a s.n).1.ints.length c8]
  have hb3 := hb2.trans (hal.mono hb2.size)
  have hB3 := HB.out.trans (hb3.mono HB.out.size)
  have hZ3 := HZ.out.grow hb3
  have hr3 := hr2.grow hal
  obtain ⟨w3, hw3⟩ : ∃ x, w2.alloc (.cells #[.slice (some ⟨b7, o7, none⟩) 4 c7, .slice A7 (mendA a s.n).1.ints.length c8] 30) = x := ⟨_, rfl⟩
  change BoxAt (w2.alloc (.cells #[.slice (some ⟨b7, o7, none⟩) 4 c7, .slice A7 (mendA a s.n).1.ints.length c8] 30)) _ _ _ at hM
  rw [hw3] at hM hB3 hZ3 hr3
  obtain ⟨q0, q1, q2, q3⟩ := hM.two
  obtain ⟨z0, z1, z2, z3⟩ := hZ3.two
  have hs3 := hZ3.lt
  have H := Lib.hid (ret_box (F' := fun k => F k ∨ w.heap.size ≤ k) hZ3 hB3 (by omega) hr3 (fun k hk => by have := HSZ.out; omega) fun k hk => by have := HSZ.out; rcases hk with (hk | hk) | hk; exact .inl hk.1; exact .inr (by omega); exact .inr (by omega))
  clear hal hM hb3 hB3 hZ3 hr3 hr2 hb2 hsh2 x0 x1 x2 x3 y0 y1 y2 y3 y4 y5 y6
  go_wp2_with fail
  exact bodyPost_ret (v := .tuple #[.agg #[.slice (some ⟨b7, o7, none⟩) 4 c7, .slice A7 (mendA a s.n).1.ints.length c8], .int .i64 (mendA a s.n).2.2]) (by simp [results, Try.results45, go_sem, *]) rfl (by rw [HP.out]; exact ⟨_, rfl, H.out.1, H.out.2⟩)
set_option maxRecDepth 100000 in
set_option maxHeartbeats 1600000 in
theorem ref_Step_none (a : Arr) (s : Step) (v vs : Value) (F : Fp) {F2 : Fp} (w : World) (h : RdA w F v a) (hs : RdSt w F2 vs s) (hsh : Shape a.disks) (hno : a.ints = []) (h1 : s.kind ≠ 1) (h2 : s.kind ≠ 2) (h3 : s.kind ≠ 3) (h4 : s.kind ≠ 4) (h5 : s.kind ≠ 5) :
    Calls Try.prog 45 #[v, vs] w fun e w' => ∃ v', e = .returned (.tuple #[v', .int .i64 (stepR a s).2]) ∧ RdA w' (fun k => F k ∨ w.heap.size ≤ k) v' (stepR a s).1 ∧ Below w.heap.size w w' := by
  obtain ⟨b0, o0, c0, Ai, ci, rfl, hD, hI, hc0, hc1⟩ := RdA_open h hsh
  obtain ⟨dv, rfl, hsn, hdv⟩ := hs
  replace hdv := okB.lt hdv
  obtain ⟨Ad, cd, rfl, _, _⟩ := hdv.shape
  obtain ⟨w1, hW, hA, hX, hZ, hB, hsz⟩ := boxes3 w [.slice (some ⟨b0, o0, none⟩) 4 c0, .slice Ai a.ints.length ci] [.int .i64 s.kind, .int .i64 s.n, .int .i64 s.m, .int .i64 s.deed.kind, .int .i64 s.deed.n, .int .i64 s.deed.m, .slice Ad s.deed.data.length cd] [.slice none 0 0, .slice none 0 0] 30 68 30
  change (((w.alloc (.cells #[.slice (some ⟨b0, o0, none⟩) 4 c0, .slice Ai a.ints.length ci] 30)).alloc (.cells #[.int .i64 s.kind, .int .i64 s.n, .int .i64 s.m, .int .i64 s.deed.kind, .int .i64 s.deed.n, .int .i64 s.deed.m, .slice Ad s.deed.data.length cd] 68)).alloc (.cells #[.slice none 0 0, .slice none 0 0] 30)) = w1 at hW
  have HP := Lib.hid (show stepR a s = (a, 1) by unfold stepR stepK; rw [if_neg h1, if_neg h2, if_neg h3, if_neg h4, if_neg h5])
  have e1 : (s.kind == 1) = false := by simpa using h1
  have e2 : (s.kind == 2) = false := by simpa using h2
  have e3 : (s.kind == 3) = false := by simpa using h3
  have e4 : (s.kind == 4) = false := by simpa using h4
  have e5 : (s.kind == 5) = false := by simpa using h5
  have hAr : RdA w1 (fun k => F k ∧ k < w.heap.size ∨ w.heap.size + 3 ≤ k) (.agg #[.slice (some ⟨b0, o0, none⟩) 4 c0, .slice Ai a.ints.length ci]) a := ⟨_, _, rfl, okBBB.mono (okBBB.grow hD hB) fun _ hk => .inl hk, okIs.mono (okIs.grow hI hB) fun _ hk => .inl hk⟩
  have hdd : RdD w1 (fun k => F2 k ∧ k < w.heap.size) (.agg #[.int .i64 s.deed.kind, .int .i64 s.deed.n, .int .i64 s.deed.m, .slice Ad s.deed.data.length cd]) s.deed := ⟨_, rfl, okB.grow hdv hB⟩
  have HSZ := Lib.hid hsz
  have HS := Lib.hid hsh
  have HNO := Lib.hid hno
  have HA := Lib.hid hA
  have HX := Lib.hid hX
  have HZ := Lib.hid hZ
  have HB := Lib.hid hB
  have HAr := Lib.hid hAr
  have HDD := Lib.hid hdd
  obtain ⟨x0, x1, x2, x3⟩ := hA.two
  obtain ⟨y0, y1, y2, y3, y4, y5, y6⟩ := hX.seven
  clear hsz hsh h hA hX hZ hB hAr hdd hdv hD hI hno
  go_enter Try.func45, Try.ntmps45
  have hs3 := HZ.out.lt
  have hsz1 := HSZ.out
  obtain ⟨z0, z1, z2, z3⟩ := HZ.out.two
  have H := Lib.hid (ret_box (F' := fun k => F k ∨ w.heap.size ≤ k) HZ.out HB.out (by omega) HAr.out (fun k hk => by omega) fun k hk => hk.elim (fun h => .inl h.1) fun h => .inr (by omega))
  clear hsz1
  go_wp2_with fail
  exact bodyPost_ret (v := .tuple #[.agg #[.slice (some ⟨b0, o0, none⟩) 4 c0, .slice Ai a.ints.length ci], .int .i64 1]) (by simp [results, Try.results45, go_sem, *]) rfl (by rw [HP.out]; exact ⟨_, rfl, H.out.1, H.out.2⟩)
theorem ref_Step (a : Arr) (s : Step) (v vs : Value) (F : Fp) {F2 : Fp} (w : World) (h : RdA w F v a) (hs : RdSt w F2 vs s) (hsh : Shape a.disks) (hno : a.ints = []) :
    Calls Try.prog 45 #[v, vs] w fun e w' => ∃ v', e = .returned (.tuple #[v', .int .i64 (stepR a s).2]) ∧ RdA w' (fun k => F k ∨ w.heap.size ≤ k) v' (stepR a s).1 ∧ Below w.heap.size w w' := by
  by_cases h1 : s.kind = 1
  · exact ref_Step_deed a s v vs F w h hs hsh hno h1
  by_cases h2 : s.kind = 2
  · exact ref_Step_fall a s v vs F w h hs hsh hno h2
  by_cases h3 : s.kind = 3
  · exact ref_Step_rot a s v vs F w h hs hsh hno h3
  by_cases h4 : s.kind = 4
  · exact ref_Step_gone a s v vs F w h hs hsh hno h4
  by_cases h5 : s.kind = 5
  · exact ref_Step_mend a s v vs F w h hs hsh hno h5
  exact ref_Step_none a s v vs F w h hs hsh hno h1 h2 h3 h4 h5
end Go.Proofs.Ytoendmbgfbhidaa

/- Merged: C8g C8h C8i C9 C9b C9c. -/
import Derived.Test.YtdcmbdghnkgghaaDoorZe
import Derived.Test.YtdcmbdghnkgghaaDoorZc
namespace Go.Proofs.YtdcmbdghnkgghaaDoor
set_option linter.unusedVariables false
open Go Go.RowKit M
/-- What an intent may be: a stripe's number, four cells. -/
def IntOk (i : Int × List Bs) : Prop := i.1 = ((i.1.toNat : Nat) : Int) ∧ i.1.toNat < 3 ∧ i.2.length = 4 ∧ ∀ c ∈ i.2, c.length ≤ 8
theorem mountTo_next {a : Arr} {k : Nat} {i : Int × List Bs} (h : a.ints[k]? = some i) : mountTo a (k + 1) = writeR (mountTo a k) i 6 := by
  have hl := (List.getElem?_eq_some_iff.1 h).1
  have he := (List.getElem?_eq_some_iff.1 h).2
  unfold mountTo
  rw [List.take_succ_eq_append_getElem hl, List.foldl_append, he]
  rfl
theorem mountTo_shape {a : Arr} (h : Shape a.disks) (hi : ∀ i ∈ a.ints, IntOk i) (k : Nat) : Shape (mountTo a k).disks := by
  unfold mountTo
  have : ∀ (l : List (Int × List Bs)) (b : Arr), Shape b.disks → (∀ i ∈ l, IntOk i) → Shape (l.foldl (fun x i => writeA x i 6) b).disks := by
    intro l
    induction l with
    | nil => intro b hb _; exact hb
    | cons i l ih =>
      intro b hb hl
      exact ih _ (putTo_shape hb _ (hl i List.mem_cons_self).2.2.2 4) fun j hj => hl j (List.mem_cons_of_mem _ hj)
  exact this _ _ h fun i hm => hi i (List.mem_of_mem_take hm)
end Go.Proofs.YtdcmbdghnkgghaaDoor

namespace Go.Proofs.YtdcmbdghnkgghaaDoor
set_option linter.unusedVariables false
open Go Go.RowKit M
/-- A list of four, set at the places of a stripe's blocks; those blocks. -/
def outG {α : Type} (f : Nat → α) (z : α) (s k : Nat) : List α := (List.range k).foldl (fun o n => if n / 3 = s then o.set (whereN n) (f n) else o) [z, z, z, z]
def lG {α : Type} (f : Nat → α) (s k : Nat) : List α := (List.range k).foldl (fun o n => if n / 3 = s then o ++ [f n] else o) []
section
variable {α : Type} {f : Nat → α} {z : α} {s k : Nat}
theorem outG_same (h : k / 3 = s) : outG f z s (k + 1) = (outG f z s k).set (whereN k) (f k) := by unfold outG; rw [List.range_succ, List.foldl_append]; simp [h]
theorem outG_other (h : k / 3 ≠ s) : outG f z s (k + 1) = outG f z s k := by unfold outG; rw [List.range_succ, List.foldl_append]; simp [h]
theorem lG_same (h : k / 3 = s) : lG f s (k + 1) = lG f s k ++ [f k] := by unfold lG; rw [List.range_succ, List.foldl_append]; simp [h]
theorem lG_other (h : k / 3 ≠ s) : lG f s (k + 1) = lG f s k := by unfold lG; rw [List.range_succ, List.foldl_append]; simp [h]
theorem outG_len : (outG f z s k).length = 4 := by
  induction k with
  | zero => rfl
  | succ k ih =>
    by_cases h : k / 3 = s
    · rw [outG_same h, List.length_set, ih]
    · rw [outG_other h, ih]
theorem lG_len : (lG f s k).length ≤ k := by
  induction k with
  | zero => exact Nat.le_refl _
  | succ k ih =>
    by_cases h : k / 3 = s
    · rw [lG_same h, List.length_append]; simp; exact ih
    · rw [lG_other h]; omega
theorem outG_rel {β : Type} {g : Nat → β} {y : β} {R : α → β → Prop} (hs : s < 3) {x : α} {u : β} (h : ∀ n, n < 9 → R (f n) (g n)) (hx : R x u) : ∀ (j : Nat) (p : α) (q : β), ((outG f z s 9).set (3 - s) x)[j]? = some p → ((outG g y s 9).set (3 - s) u)[j]? = some q → R p q := by
  have e : ∀ (γ : Type) (f : Nat → γ) (z x : γ), (outG f z s 9).set (3 - s) x = if s = 0 then [f 0, f 1, f 2, x] else if s = 1 then [f 3, f 4, x, f 5] else [f 6, x, f 7, f 8] := by
    intro γ f z x
    match s, hs with
    | 0, _ => rfl
    | 1, _ => rfl
    | 2, _ => rfl
  intro j p q hp hq
  rw [e] at hp hq
  match s, hs with
  | 0, _ =>
    match j with
    | 0 => simp at hp hq; subst hp; subst hq; exact h 0 (by decide)
    | 1 => simp at hp hq; subst hp; subst hq; exact h 1 (by decide)
    | 2 => simp at hp hq; subst hp; subst hq; exact h 2 (by decide)
    | 3 => simp at hp hq; subst hp; subst hq; exact hx
    | j + 4 => simp at hp
  | 1, _ =>
    match j with
    | 0 => simp at hp hq; subst hp; subst hq; exact h 3 (by decide)
    | 1 => simp at hp hq; subst hp; subst hq; exact h 4 (by decide)
    | 2 => simp at hp hq; subst hp; subst hq; exact hx
    | 3 => simp at hp hq; subst hp; subst hq; exact h 5 (by decide)
    | j + 4 => simp at hp
  | 2, _ =>
    match j with
    | 0 => simp at hp hq; subst hp; subst hq; exact h 6 (by decide)
    | 1 => simp at hp hq; subst hp; subst hq; exact hx
    | 2 => simp at hp hq; subst hp; subst hq; exact h 7 (by decide)
    | 3 => simp at hp hq; subst hp; subst hq; exact h 8 (by decide)
    | j + 4 => simp at hp
theorem lG_rel {β : Type} {g : Nat → β} {R : α → β → Prop} (hs : s < 3) (h : ∀ n, n < 9 → R (f n) (g n)) : (lG f s 9).length = (lG g s 9).length ∧ ∀ (j : Nat) (p : α) (q : β), (lG f s 9)[j]? = some p → (lG g s 9)[j]? = some q → R p q := by
  have e : ∀ (γ : Type) (f : Nat → γ), lG f s 9 = [f (3 * s), f (3 * s + 1), f (3 * s + 2)] := by
    intro γ f
    match s, hs with
    | 0, _ => rfl
    | 1, _ => rfl
    | 2, _ => rfl
  rw [e, e]
  refine ⟨rfl, fun j p q hp hq => ?_⟩
  match j with
  | 0 => simp at hp hq; subst hp; subst hq; exact h _ (by omega)
  | 1 => simp at hp hq; subst hp; subst hq; exact h _ (by omega)
  | 2 => simp at hp hq; subst hp; subst hq; exact h _ (by omega)
  | j + 3 => simp at hp
end
/-- What a plan's cells have, as the reference goes about it. -/
theorem plan_way {D : List Bs} {d : Deed} (hr : wrongI d = 0) (hD : D.length = 4) (h4 : Blocks4 D) {l9 : List Bs} {s : Nat} (hs : s = d.n.toNat / 3)
    (hl : l9 = doD (blocksQ fun t => if t = s then D else List.replicate 4 zero4) d) :
    (outG (fun n => l9.getD n []) [] s 9).set (3 - s) (xorAll (lG (fun n => l9.getD n []) s 9)) = planData D d ∧ Blocks4 (lG (fun n => l9.getD n []) s 9) := by
  obtain ⟨⟨n0, n1⟩, hq⟩ := wrong_ok hr
  have hs3 : s < 3 := by omega
  have hQ : ∀ t, t < 3 → ((fun t => if t = s then D else List.replicate 4 zero4) t).length = 4 := fun t _ => by
    by_cases h : t = s
    · simp [h, hD]
    · simp [h]
  have hd := doQ_blocks (Q := fun t => if t = s then D else List.replicate 4 zero4) hr hQ
  rw [← hd] at hl
  have hg : ∀ n, n < 9 → n / 3 = s → l9.getD n [] = (planData D d).getD (whereN n) [] := fun n hn he => by
    rw [hl, blocksQ_get _ hn, he]
    unfold doQ
    simp [← hs]
  obtain ⟨p1, p2, p3⟩ := plan_zero hr hD h4
  have hz : (planData D d).getD (3 - s) [] = xorAll ((planData D d).eraseIdx (3 - s)) := by
    have hi : 3 - s < (planData D d).length := by omega
    rw [xor_others p2 hi p3]
    simp [List.getD, List.getElem?_eq_getElem hi]
  obtain ⟨a, b, c, e, hP⟩ := list4 p1
  rw [hP] at hg hz p2 ⊢
  match s, hs3 with
  | 0, _ =>
    have g0 := hg 0 (by decide) (by decide)
    have g1 := hg 1 (by decide) (by decide)
    have g2 := hg 2 (by decide) (by decide)
    change l9.getD 0 [] = a at g0
    change l9.getD 1 [] = b at g1
    change l9.getD 2 [] = c at g2
    change e = xorAll [a, b, c] at hz
    have e1 : lG (fun n => l9.getD n []) 0 9 = [a, b, c] := by rw [← g0, ← g1, ← g2]; rfl
    have e2 : (outG (fun n => l9.getD n []) [] 0 9).set (3 - 0) (xorAll [a, b, c]) = [a, b, c, xorAll [a, b, c]] := by rw [← g0, ← g1, ← g2]; rfl
    rw [e1, e2, ← hz]
    exact ⟨rfl, fun x hx => p2 x (by simp at hx ⊢; rcases hx with h | h | h <;> simp [h])⟩
  | 1, _ =>
    have g0 := hg 3 (by decide) (by decide)
    have g1 := hg 4 (by decide) (by decide)
    have g2 := hg 5 (by decide) (by decide)
    change l9.getD 3 [] = a at g0
    change l9.getD 4 [] = b at g1
    change l9.getD 5 [] = e at g2
    change c = xorAll [a, b, e] at hz
    have e1 : lG (fun n => l9.getD n []) 1 9 = [a, b, e] := by rw [← g0, ← g1, ← g2]; rfl
    have e2 : (outG (fun n => l9.getD n []) [] 1 9).set (3 - 1) (xorAll [a, b, e]) = [a, b, xorAll [a, b, e], e] := by rw [← g0, ← g1, ← g2]; rfl
    rw [e1, e2, ← hz]
    exact ⟨rfl, fun x hx => p2 x (by simp at hx ⊢; rcases hx with h | h | h <;> simp [h])⟩
  | 2, _ =>
    have g0 := hg 6 (by decide) (by decide)
    have g1 := hg 7 (by decide) (by decide)
    have g2 := hg 8 (by decide) (by decide)
    change l9.getD 6 [] = a at g0
    change l9.getD 7 [] = c at g1
    change l9.getD 8 [] = e at g2
    change b = xorAll [a, c, e] at hz
    have e1 : lG (fun n => l9.getD n []) 2 9 = [a, c, e] := by rw [← g0, ← g1, ← g2]; rfl
    have e2 : (outG (fun n => l9.getD n []) [] 2 9).set (3 - 2) (xorAll [a, c, e]) = [a, xorAll [a, c, e], c, e] := by rw [← g0, ← g1, ← g2]; rfl
    rw [e1, e2, ← hz]
    exact ⟨rfl, fun x hx => p2 x (by simp at hx ⊢; rcases hx with h | h | h <;> simp [h])⟩
/-- The blocks, as they are laid for a deed. -/
def blkTo (D : List Bs) (s k : Nat) : List Bs := (List.range 9).map fun n => if n < k ∧ n / 3 = s then D.getD (whereN n) [] else zero4
theorem blkTo_zero (D : List Bs) (s : Nat) : blkTo D s 0 = newB := rfl
theorem blkTo_len (D : List Bs) (s k : Nat) : (blkTo D s k).length = 9 := by simp [blkTo]
theorem blkTo_same {D : List Bs} {s k : Nat} (hk : k < 9) (h : k / 3 = s) : (blkTo D s k).set k (D.getD (whereN k) []) = blkTo D s (k + 1) := by
  apply List.ext_getElem (by simp [blkTo])
  intro i h1 h2
  have hi : i < 9 := by simpa [blkTo] using h2
  by_cases he : i = k
  · subst he
    rw [List.getElem_set_self]
    simp [blkTo, h]
  · rw [List.getElem_set_ne (Ne.symm he)]
    simp only [blkTo, List.getElem_map, List.getElem_range]
    have : i < k ↔ i < k + 1 := by omega
    simp only [this]
theorem blkTo_other {D : List Bs} {s k : Nat} (h : k / 3 ≠ s) : blkTo D s (k + 1) = blkTo D s k := by
  unfold blkTo
  apply List.map_congr_left
  intro n _
  by_cases he : n = k
  · subst he; simp [h]
  · have : n < k ↔ n < k + 1 := by omega
    simp only [this]
theorem blkTo_all (D : List Bs) (s : Nat) : blkTo D s 9 = blocksQ fun t => if t = s then D else List.replicate 4 zero4 := by
  unfold blkTo blocksQ
  apply List.map_congr_left
  intro n hn
  have hn9 : n < 9 := by simpa using hn
  by_cases h : n / 3 = s
  · simp [h, hn9]
  · have hw := (whereN_ne hn9).2
    have e : (List.replicate 4 zero4).getD (whereN n) [] = zero4 := by simp only [List.getD, List.getElem?_replicate, if_pos hw]; rfl
    rw [if_neg (fun x => h x.2)]
    simp only [if_neg h]
    exact e.symm
end Go.Proofs.YtdcmbdghnkgghaaDoor

namespace Go.Proofs.YtdcmbdghnkgghaaDoor
set_option linter.unusedVariables false
open Go Go.RowKit M
theorem boxes3 (w : World) (a b c : List Value) (T T' T'' : TypeId) : ∃ w1, (((w.alloc (.cells a.toArray T)).alloc (.cells b.toArray T')).alloc (.cells c.toArray T'')) = w1 ∧ BoxAt w1 w.heap.size T a ∧ BoxAt w1 (w.heap.size + 1) T' b ∧ BoxAt w1 (w.heap.size + 1 + 1) T'' c ∧ Below w.heap.size w w1 ∧ w1.heap.size = w.heap.size + 3 := by
  have h0 := boxAt_new w T a
  have h1 := below_alloc w (.cells a.toArray T)
  have h2 := boxAt_new (w.alloc (.cells a.toArray T)) T' b
  have h3 := below_alloc (w.alloc (.cells a.toArray T)) (.cells b.toArray T')
  have h4 := boxAt_new ((w.alloc (.cells a.toArray T)).alloc (.cells b.toArray T')) T'' c
  have h5 := below_alloc ((w.alloc (.cells a.toArray T)).alloc (.cells b.toArray T')) (.cells c.toArray T'')
  rw [alloc_size] at h2
  rw [alloc_size, alloc_size] at h4
  refine ⟨_, rfl, (h0.grow h3).grow h5, h2.grow h5, h4, (h1.trans (h3.mono h1.size)).trans (h5.mono (Nat.le_trans h1.size h3.size)), by rw [alloc_size, alloc_size, alloc_size]⟩
theorem mk4BB (w : World) : (Instr.makeSlice 38 (.int .i64 4) (.int .i64 4)).run Tryd.prog w = .ok (.slice (some ⟨w.heap.size, 0, none⟩) 4 4) (w.alloc (.cells #[.slice none 0 0, .slice none 0 0, .slice none 0 0, .slice none 0 0] 22)) := by kernel_rfl
def vAt (us : List Value) (n : Nat) : Value := us.getD n (.slice none 0 0)
theorem okRVL : Ok (RdL RV) := okL okRV
/-- The end of it, where there is no plan. -/
theorem plan_none_end {w w' : World} (T : TypeId) (hz : BoxAt w' (w.heap.size + 1 + 1) T [.int .i64 0, .slice none 0 0]) (hb : Below w.heap.size w w') : RdI (set2 w' (w.heap.size + 1 + 1) (.int .i64 0) (.slice none 0 0)) (fun k => w.heap.size ≤ k) (.agg #[.int .i64 0, .slice none 0 0]) (0, []) ∧ Below w.heap.size w (set2 w' (w.heap.size + 1 + 1) (.int .i64 0) (.slice none 0 0)) :=
  ⟨⟨_, rfl, RdL.nil_ _ _ _ _ _ (by decide)⟩, hb.trans (below_set2 (by omega))⟩
end Go.Proofs.YtdcmbdghnkgghaaDoor

namespace Go.Proofs.YtdcmbdghnkgghaaDoor
set_option linter.unusedVariables false
open Go Go.RowKit M
theorem intOk_plan {D : List (List Bs)} (hs : Shape D) {d : Deed} (h : (planA D d).2 = 0) : IntOk (planA D d).1 := by
  obtain ⟨_, h1, h2, h3, h4⟩ := plan_form hs h
  exact ⟨by rw [h1, Int.toNat_natCast], h2, h3, h4⟩
theorem doA_bad {a : Arr} {d : Deed} (h : (planA a.disks d).2 ≠ 0) : doA a d = (a, (planA a.disks d).2) := by unfold doA; rw [if_pos h]
theorem doA_ok {a : Arr} {d : Deed} (h : (planA a.disks d).2 = 0) : doA a d = (writeR a (planA a.disks d).1 6, 0) := by unfold doA; rw [if_neg (by simpa using h)]; rfl
/-- A box into which a record of two is laid: the end of many a function. -/
theorem ret_box {w w' : World} {b : Nat} {T : TypeId} {cs : List Value} {F F' : Fp} {u0 u1 : Value} {a : Arr} (hz : BoxAt w' b T cs) (hb : Below w.heap.size w w') (hwb : w.heap.size ≤ b) (hr : RdA w' F (.agg #[u0, u1]) a) (hF : ∀ k, F k → k ≠ b) (hF' : ∀ k, F k → F' k) :
    RdA (set2 w' b u0 u1) F' (.agg #[u0, u1]) a ∧ Below w.heap.size w (set2 w' b u0 u1) := ⟨(hr.set2 (b := b) hF).mono hF', hb.trans (below_set2 hwb)⟩
end Go.Proofs.YtdcmbdghnkgghaaDoor

namespace Go.Proofs.YtdcmbdghnkgghaaDoor
set_option linter.unusedVariables false
open Go Go.RowKit M
end Go.Proofs.YtdcmbdghnkgghaaDoor

namespace Go.Proofs.YtdcmbdghnkgghaaDoor
set_option linter.unusedVariables false
open Go Go.RowKit M
/-- A step, as a value of seven cells. -/
def RdSt (w : World) (F : Fp) (v : Value) (s : Step) : Prop := ∃ dv, v = .agg #[.int .i64 s.kind, .int .i64 s.n, .int .i64 s.m, .int .i64 s.deed.kind, .int .i64 s.deed.n, .int .i64 s.deed.m, dv] ∧ s.n ≤ 9223372036854775807 ∧ RdB w F dv s.deed.data
theorem quo3 {n : Int} (h0 : 0 ≤ n) (h1 : n ≤ 9223372036854775807) : wrap64 (n.tdiv 3) = n / 3 := by
  rw [Int.tdiv_eq_ediv_of_nonneg h0]
  unfold wrap64
  omega
theorem M.BoxAt.seven {w : World} {b : Nat} {T : TypeId} {a0 a1 a2 a3 a4 a5 a6 : Value} (h : BoxAt w b T [a0, a1, a2, a3, a4, a5, a6]) : w.cell? ⟨b, 0, none⟩ = some a0 ∧ w.cell? ⟨b, 1, none⟩ = some a1 ∧ w.cell? ⟨b, 2, none⟩ = some a2 ∧ w.cell? ⟨b, 3, none⟩ = some a3 ∧ w.cell? ⟨b, 4, none⟩ = some a4 ∧ w.cell? ⟨b, 5, none⟩ = some a5 ∧ w.cell? ⟨b, 6, none⟩ = some a6 :=
  ⟨h.cell 0, h.cell 1, h.cell 2, h.cell 3, h.cell 4, h.cell 5, h.cell 6⟩
theorem doA_shape {a : Arr} (h : Shape a.disks) (d : Deed) : Shape (doA a d).1.disks := by
  by_cases he : (planA a.disks d).2 = 0
  · rw [doA_ok he]; exact putTo_shape h _ (intOk_plan h he).2.2.2 4
  · rw [doA_bad he]; exact h
theorem rot_shape {a : Arr} (h : Shape a.disks) (d s n : Int) : Shape (rotA a d s n).1.disks := (rot_back h d s n).2.2
theorem writeR_ints {a : Arr} (h : a.ints = []) {i : Int × List Bs} (hi : IntOk i) (n : Int) : (∀ j ∈ (writeR a i n).ints, IntOk j) ∧ (writeR a i n).ints.length ≤ 1 := by
  unfold writeR writeK
  simp only []
  split
  · exact ⟨fun j hj => (List.not_mem_nil hj).elim, Nat.zero_le _⟩
  · split
    · exact ⟨fun j hj => by rw [List.mem_singleton] at hj; rw [hj]; exact hi, Nat.le_refl _⟩
    · rw [h]; exact ⟨fun j hj => (List.not_mem_nil hj).elim, Nat.zero_le _⟩
theorem writeR_shape {a : Arr} (h : Shape a.disks) {i : Int × List Bs} (hi : IntOk i) (n : Int) : Shape (writeR a i n).disks := putTo_shape h _ hi.2.2.2 _
end Go.Proofs.YtdcmbdghnkgghaaDoor

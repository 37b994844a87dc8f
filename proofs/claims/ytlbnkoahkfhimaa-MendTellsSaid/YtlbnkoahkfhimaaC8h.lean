/- Chapter 8: what the reference's Plan computes. -/
import Derived.Test.YtlbnkoahkfhimaaC8g
namespace Go.Proofs.Ytlbnkoahkfhimaa
set_option linter.unusedVariables false
open Go Go.RowKit M
/-- A list of four, set at the places of a stripe's blocks; those blocks. -/
def outG {α : Type} (f : Nat → α) (z : α) (s k : Nat) : List α := (List.range k).foldl (fun o n => if n / 3 = s then o.set (whereN n) (f n) else o) [z, z, z, z]
def lG {α : Type} (f : Nat → α) (s k : Nat) : List α := (List.range k).foldl (fun o n => if n / 3 = s then o ++ [f n] else o) []
section
variable {α : Type} {f : Nat → α} {z : α} {s k : Nat}
theorem outG_same (h : k / 3 = s) : outG f z s (k + 1) = (outG f z s k).set (whereN k) (f k) := by unfold outG; rw [List.range_succ, List.foldl_append]; simp [h]
theorem outG_other (h : k / 3 ≠ s) : outG f z s (k + 1) = outG f z s k := by unfold outG; rw [List.range_succ, List.foldl_append]; simp [h]
theorem lG_same (h : k / 3 = s) : lG f s (k + 1) = lG f s k ++ [f k] := by unfold lG; rw [List.range_succ, List.foldl_append]; simp [h]
theorem lG_other (h : k / 3 ≠ s) : lG f s (k + 1) = lG f s k := by unfold lG; rw [List.range_succ, List.foldl_append]; simp [h]
theorem outG_len : (outG f z s k).length = 4 := by
  induction k with
  | zero => rfl
  | succ k ih =>
    by_cases h : k / 3 = s
    · rw [outG_same h, List.length_set, ih]
    · rw [outG_other h, ih]
theorem lG_len : (lG f s k).length ≤ k := by
  induction k with
  | zero => exact Nat.le_refl _
  | succ k ih =>
    by_cases h : k / 3 = s
    · rw [lG_same h, List.length_append]; simp; exact ih
    · rw [lG_other h]; omega
theorem outG_rel {β : Type} {g : Nat → β} {y : β} {R : α → β → Prop} (hs : s < 3) {x : α} {u : β} (h : ∀ n, n < 9 → R (f n) (g n)) (hx : R x u) : ∀ (j : Nat) (p : α) (q : β), ((outG f z s 9).set (3 - s) x)[j]? = some p → ((outG g y s 9).set (3 - s) u)[j]? = some q → R p q := by
  have e : ∀ (γ : Type) (f : Nat → γ) (z x : γ), (outG f z s 9).set (3 - s) x = if s = 0 then [f 0, f 1, f 2, x] else if s = 1 then [f 3, f 4, x, f 5] else [f 6, x, f 7, f 8] := by
    intro γ f z x
    match s, hs with
    | 0, _ => rfl
    | 1, _ => rfl
    | 2, _ => rfl
  intro j p q hp hq
  rw [e] at hp hq
  match s, hs with
  | 0, _ =>
    match j with
    | 0 => simp at hp hq; subst hp; subst hq; exact h 0 (by decide)
    | 1 => simp at hp hq; subst hp; subst hq; exact h 1 (by decide)
    | 2 => simp at hp hq; subst hp; subst hq; exact h 2 (by decide)
    | 3 => simp at hp hq; subst hp; subst hq; exact hx
    | j + 4 => simp at hp
  | 1, _ =>
    match j with
    | 0 => simp at hp hq; subst hp; subst hq; exact h 3 (by decide)
    | 1 => simp at hp hq; subst hp; subst hq; exact h 4 (by decide)
    | 2 => simp at hp hq; subst hp; subst hq; exact hx
    | 3 => simp at hp hq; subst hp; subst hq; exact h 5 (by decide)
    | j + 4 => simp at hp
  | 2, _ =>
    match j with
    | 0 => simp at hp hq; subst hp; subst hq; exact h 6 (by decide)
    | 1 => simp at hp hq; subst hp; subst hq; exact hx
    | 2 => simp at hp hq; subst hp; subst hq; exact h 7 (by decide)
    | 3 => simp at hp hq; subst hp; subst hq; exact h 8 (by decide)
    | j + 4 => simp at hp
theorem lG_rel {β : Type} {g : Nat → β} {R : α → β → Prop} (hs : s < 3) (h : ∀ n, n < 9 → R (f n) (g n)) : (lG f s 9).length = (lG g s 9).length ∧ ∀ (j : Nat) (p : α) (q : β), (lG f s 9)[j]? = some p → (lG g s 9)[j]? = some q → R p q := by
  have e : ∀ (γ : Type) (f : Nat → γ), lG f s 9 = [f (3 * s), f (3 * s + 1), f (3 * s + 2)] := by
    intro γ f
    match s, hs with
    | 0, _ => rfl
    | 1, _ => rfl
    | 2, _ => rfl
  rw [e, e]
  refine ⟨rfl, fun j p q hp hq => ?_⟩
  match j with
  | 0 => simp at hp hq; subst hp; subst hq; exact h _ (by omega)
  | 1 => simp at hp hq; subst hp; subst hq; exact h _ (by omega)
  | 2 => simp at hp hq; subst hp; subst hq; exact h _ (by omega)
  | j + 3 => simp at hp
end
/-- What a plan's cells have, as the reference goes about it. -/
theorem plan_way {D : List Bs} {d : Deed} (hr : wrongI d = 0) (hD : D.length = 4) (h4 : Blocks4 D) {l9 : List Bs} {s : Nat} (hs : s = d.n.toNat / 3)
    (hl : l9 = doD (blocksQ fun t => if t = s then D else List.replicate 4 zero4) d) :
    (outG (fun n => l9.getD n []) [] s 9).set (3 - s) (xorAll (lG (fun n => l9.getD n []) s 9)) = planData D d ∧ Blocks4 (lG (fun n => l9.getD n []) s 9) := by
  obtain ⟨⟨n0, n1⟩, hq⟩ := wrong_ok hr
  have hs3 : s < 3 := by omega
  have hQ : ∀ t, t < 3 → ((fun t => if t = s then D else List.replicate 4 zero4) t).length = 4 := fun t _ => by
    by_cases h : t = s
    · simp [h, hD]
    · simp [h]
  have hd := doQ_blocks (Q := fun t => if t = s then D else List.replicate 4 zero4) hr hQ
  rw [← hd] at hl
  have hg : ∀ n, n < 9 → n / 3 = s → l9.getD n [] = (planData D d).getD (whereN n) [] := fun n hn he => by
    rw [hl, blocksQ_get _ hn, he]
    unfold doQ
    simp [← hs]
  obtain ⟨p1, p2, p3⟩ := plan_zero hr hD h4
  have hz : (planData D d).getD (3 - s) [] = xorAll ((planData D d).eraseIdx (3 - s)) := by
    have hi : 3 - s < (planData D d).length := by omega
    rw [xor_others p2 hi p3]
    simp [List.getD, List.getElem?_eq_getElem hi]
  obtain ⟨a, b, c, e, hP⟩ := list4 p1
  rw [hP] at hg hz p2 ⊢
  match s, hs3 with
  | 0, _ =>
    have g0 := hg 0 (by decide) (by decide)
    have g1 := hg 1 (by decide) (by decide)
    have g2 := hg 2 (by decide) (by decide)
    change l9.getD 0 [] = a at g0
    change l9.getD 1 [] = b at g1
    change l9.getD 2 [] = c at g2
    change e = xorAll [a, b, c] at hz
    have e1 : lG (fun n => l9.getD n []) 0 9 = [a, b, c] := by rw [← g0, ← g1, ← g2]; rfl
    have e2 : (outG (fun n => l9.getD n []) [] 0 9).set (3 - 0) (xorAll [a, b, c]) = [a, b, c, xorAll [a, b, c]] := by rw [← g0, ← g1, ← g2]; rfl
    rw [e1, e2, ← hz]
    exact ⟨rfl, fun x hx => p2 x (by simp at hx ⊢; rcases hx with h | h | h <;> simp [h])⟩
  | 1, _ =>
    have g0 := hg 3 (by decide) (by decide)
    have g1 := hg 4 (by decide) (by decide)
    have g2 := hg 5 (by decide) (by decide)
    change l9.getD 3 [] = a at g0
    change l9.getD 4 [] = b at g1
    change l9.getD 5 [] = e at g2
    change c = xorAll [a, b, e] at hz
    have e1 : lG (fun n => l9.getD n []) 1 9 = [a, b, e] := by rw [← g0, ← g1, ← g2]; rfl
    have e2 : (outG (fun n => l9.getD n []) [] 1 9).set (3 - 1) (xorAll [a, b, e]) = [a, b, xorAll [a, b, e], e] := by rw [← g0, ← g1, ← g2]; rfl
    rw [e1, e2, ← hz]
    exact ⟨rfl, fun x hx => p2 x (by simp at hx ⊢; rcases hx with h | h | h <;> simp [h])⟩
  | 2, _ =>
    have g0 := hg 6 (by decide) (by decide)
    have g1 := hg 7 (by decide) (by decide)
    have g2 := hg 8 (by decide) (by decide)
    change l9.getD 6 [] = a at g0
    change l9.getD 7 [] = c at g1
    change l9.getD 8 [] = e at g2
    change b = xorAll [a, c, e] at hz
    have e1 : lG (fun n => l9.getD n []) 2 9 = [a, c, e] := by rw [← g0, ← g1, ← g2]; rfl
    have e2 : (outG (fun n => l9.getD n []) [] 2 9).set (3 - 2) (xorAll [a, c, e]) = [a, xorAll [a, c, e], c, e] := by rw [← g0, ← g1, ← g2]; rfl
    rw [e1, e2, ← hz]
    exact ⟨rfl, fun x hx => p2 x (by simp at hx ⊢; rcases hx with h | h | h <;> simp [h])⟩
/-- The blocks, as they are laid for a deed. -/
def blkTo (D : List Bs) (s k : Nat) : List Bs := (List.range 9).map fun n => if n < k ∧ n / 3 = s then D.getD (whereN n) [] else zero4
theorem blkTo_zero (D : List Bs) (s : Nat) : blkTo D s 0 = newB := rfl
theorem blkTo_len (D : List Bs) (s k : Nat) : (blkTo D s k).length = 9 := by simp [blkTo]
theorem blkTo_same {D : List Bs} {s k : Nat} (hk : k < 9) (h : k / 3 = s) : (blkTo D s k).set k (D.getD (whereN k) []) = blkTo D s (k + 1) := by
  apply List.ext_getElem (by simp [blkTo])
  intro i h1 h2
  have hi : i < 9 := by simpa [blkTo] using h2
  by_cases he : i = k
  · subst he
    rw [List.getElem_set_self]
    simp [blkTo, h]
  · rw [List.getElem_set_ne (Ne.symm he)]
    simp only [blkTo, List.getElem_map, List.getElem_range]
    have : i < k ↔ i < k + 1 := by omega
    simp only [this]
theorem blkTo_other {D : List Bs} {s k : Nat} (h : k / 3 ≠ s) : blkTo D s (k + 1) = blkTo D s k := by
  unfold blkTo
  apply List.map_congr_left
  intro n _
  by_cases he : n = k
  · subst he; simp [h]
  · have : n < k ↔ n < k + 1 := by omega
    simp only [this]
theorem blkTo_all (D : List Bs) (s : Nat) : blkTo D s 9 = blocksQ fun t => if t = s then D else List.replicate 4 zero4 := by
  unfold blkTo blocksQ
  apply List.map_congr_left
  intro n hn
  have hn9 : n < 9 := by simpa using hn
  by_cases h : n / 3 = s
  · simp [h, hn9]
  · have hw := (whereN_ne hn9).2
    have e : (List.replicate 4 zero4).getD (whereN n) [] = zero4 := by simp only [List.getD, List.getElem?_replicate, if_pos hw]; rfl
    rw [if_neg (fun x => h x.2)]
    simp only [if_neg h]
    exact e.symm
end Go.Proofs.Ytlbnkoahkfhimaa

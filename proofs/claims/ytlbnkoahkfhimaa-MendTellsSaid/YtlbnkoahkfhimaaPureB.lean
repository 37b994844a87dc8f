/- Arrays, in plain Lean: how their lists grow, one by one. No program in sight. -/
import Derived.Test.YtlbnkoahkfhimaaPureA
namespace Go.Proofs.Ytlbnkoahkfhimaa.M
set_option linter.unusedVariables false
theorem badTo_ok {l : List Bs} {s k : Nat} (h : okC l s k = true) : badTo l s (k + 1) = badTo l s k := by
  unfold badTo; rw [List.range_succ, List.filter_append]; simp [h]
theorem badTo_bad {l : List Bs} {s k : Nat} (h : okC l s k = false) : badTo l s (k + 1) = badTo l s k ++ [k] := by
  unfold badTo; rw [List.range_succ, List.filter_append]; simp [h]
theorem badTo_len (l : List Bs) (s k : Nat) : (badTo l s k).length ≤ k := by
  have := List.length_filter_le (fun d => !okC l s d) (List.range k)
  rw [List.length_range] at this
  exact this
theorem badL_eq (l : List Bs) (s : Nat) : badL l s = badTo l s l.length := rfl
theorem goodTo_ok {l : List Bs} {s k : Nat} (h : okC l s k = true) : goodTo l s (k + 1) = goodTo l s k ++ [(readC (l.getD k []) k s).1] := by
  unfold goodTo; rw [List.range_succ, List.filter_append]; simp [h]
theorem goodTo_bad {l : List Bs} {s k : Nat} (h : okC l s k = false) : goodTo l s (k + 1) = goodTo l s k := by
  unfold goodTo; rw [List.range_succ, List.filter_append]; simp [h]
theorem goodTo_len (l : List Bs) (s k : Nat) : (goodTo l s k).length ≤ k := by
  unfold goodTo
  rw [List.length_map]
  have := List.length_filter_le (fun d => okC l s d) (List.range k)
  rw [List.length_range] at this
  exact this
theorem goodTo_blocks (l : List Bs) (s k : Nat) : Blocks4 (goodTo l s k) := by
  intro b hb
  unfold goodTo at hb
  simp only [List.mem_map, List.mem_filter, List.mem_range] at hb
  obtain ⟨d, ⟨_, hd⟩, rfl⟩ := hb
  exact readC_len (by unfold okC at hd; simpa using hd)
theorem rawTo_next (l : List Bs) (s k : Nat) : rawTo l s (k + 1) = rawTo l s k ++ [(readC (l.getD k []) k s).1] := by
  unfold rawTo; rw [List.range_succ]; simp
theorem rawTo_len (l : List Bs) (s k : Nat) : (rawTo l s k).length = k := by simp [rawTo]
theorem datTo_next (l : List Bs) (s k : Nat) : datTo l s (k + 1) = datTo l s k ++ [if okC l s k then (readC (l.getD k []) k s).1 else xorAll (goodTo l s l.length)] := by
  unfold datTo; rw [List.range_succ]; simp
theorem datTo_len (l : List Bs) (s k : Nat) : (datTo l s k).length = k := by simp [datTo]
theorem makeTo_next (d : List Bs) (s k : Nat) : makeTo d s (k + 1) = makeTo d s k ++ [cellB k s (d.getD k [])] := by
  unfold makeTo; rw [List.range_succ]; simp
theorem makeTo_len (d : List Bs) (s k : Nat) : (makeTo d s k).length = k := by simp [makeTo]
theorem makeL_len (d : List Bs) (s : Nat) : (makeL d s).length = d.length := makeTo_len d s _
theorem okC_true {l : List Bs} {s d : Nat} : okC l s d = true ↔ (readC (l.getD d []) d s).2 = 0 := by unfold okC; simp
theorem okC_false {l : List Bs} {s d : Nat} : okC l s d = false ↔ (readC (l.getD d []) d s).2 ≠ 0 := by unfold okC; simp
theorem datTo_blocks (l : List Bs) (s k : Nat) : Blocks4 (datTo l s k) := by
  intro b hb
  unfold datTo at hb
  simp only [List.mem_map, List.mem_range] at hb
  obtain ⟨d, _, rfl⟩ := hb
  split
  · rename_i h
    exact readC_len (okC_true.1 h)
  · exact xorAll_length _
theorem mem_badL {l : List Bs} {s d : Nat} : d ∈ badL l s ↔ d < l.length ∧ okC l s d = false := by
  unfold badL
  simp
theorem dat_none {l : List Bs} {s : Nat} (h : badL l s = []) : rawTo l s l.length = datTo l s l.length := by
  unfold rawTo datTo
  apply List.map_congr_left
  intro d hd
  have : okC l s d = true := by
    cases hk : okC l s d with
    | true => rfl
    | false =>
      have := mem_badL.2 ⟨by simpa using hd, hk⟩
      rw [h] at this
      cases this
  rw [if_pos this]
theorem one_bad {l : List Bs} {s b : Nat} (h : badL l s = [b]) : b < l.length ∧ okC l s b = false ∧ ∀ d, d < l.length → d ≠ b → okC l s d = true := by
  have hb : b ∈ badL l s := by rw [h]; simp
  obtain ⟨h1, h2⟩ := mem_badL.1 hb
  refine ⟨h1, h2, fun d hd hdb => ?_⟩
  cases hk : okC l s d with
  | true => rfl
  | false =>
    have := mem_badL.2 ⟨hd, hk⟩
    rw [h] at this
    simp at this
    exact absurd this hdb
theorem dat_one {l : List Bs} {s b : Nat} (h : badL l s = [b]) : (rawTo l s l.length).set b (xorAll (goodTo l s l.length)) = datTo l s l.length := by
  obtain ⟨h1, h2, h3⟩ := one_bad h
  apply List.ext_getElem
  · simp [rawTo, datTo]
  · intro i hi hj
    have hil : i < l.length := by simpa [datTo] using hj
    by_cases hib : i = b
    · subst hib
      simp [datTo, h2]
    · rw [List.getElem_set_ne (Ne.symm hib)]
      simp [rawTo, datTo, h3 i hil hib]
/-- What the others have: all of the list but d. -/
def othTo (l : List Bs) (s d k : Nat) : List Bs := ((List.range k).filter fun j => j ≠ d).map fun j => (readC (l.getD j []) j s).1
theorem othTo_same (l : List Bs) (s d : Nat) : othTo l s d (d + 1) = othTo l s d d := by
  unfold othTo; rw [List.range_succ, List.filter_append]; simp
theorem othTo_next {l : List Bs} {s d k : Nat} (h : k ≠ d) : othTo l s d (k + 1) = othTo l s d k ++ [(readC (l.getD k []) k s).1] := by
  unfold othTo; rw [List.range_succ, List.filter_append]; simp [h]
theorem othTo_len (l : List Bs) (s d k : Nat) : (othTo l s d k).length ≤ k := by
  unfold othTo
  rw [List.length_map]
  have := List.length_filter_le (fun j => decide (j ≠ d)) (List.range k)
  rw [List.length_range] at this
  exact this
theorem othTo_good {l : List Bs} {s b : Nat} (h : badL l s = [b]) : othTo l s b l.length = goodTo l s l.length := by
  obtain ⟨h1, h2, h3⟩ := one_bad h
  unfold othTo goodTo
  congr 1
  apply List.filter_congr
  intro d hd
  have hd' : d < l.length := by simpa using hd
  by_cases hdb : d = b
  · subst hdb; simp [h2]
  · simp [hdb, h3 d hd' hdb]
/-- At most one of them is none, and this one is. -/
theorem bad_single {l : List Bs} {s d : Nat} (h1 : ¬ 1 < (badL l s).length) (hd : d < l.length) (hb : okC l s d = false) : badL l s = [d] := by
  have hm := mem_badL.2 ⟨hd, hb⟩
  match hL : badL l s with
  | [] => rw [hL] at hm; cases hm
  | [x] => rw [hL] at hm; simp at hm; subst hm; rfl
  | x :: y :: t => rw [hL] at h1; simp at h1
theorem cellsA_len (D : List (List Bs)) (s : Nat) : (cellsA D s).length = D.length := by simp [cellsA]
theorem cellsA_get (D : List (List Bs)) (s d : Nat) : (cellsA D s).getD d [] = cellAt D d s := by
  unfold cellsA cellAt
  simp only [List.getD, List.getElem?_map]
  cases D[d]? <;> simp
theorem cellsA_next {D : List (List Bs)} {s k : Nat} (hk : k < D.length) : (cellsA D s).take k ++ [cellAt D k s] = (cellsA D s).take (k + 1) := by
  rw [List.take_succ_eq_append_getElem (by rw [cellsA_len]; exact hk)]
  congr 2
  unfold cellsA cellAt
  simp [List.getD, List.getElem?_eq_getElem hk]
theorem Shape.row {D : List (List Bs)} (h : Shape D) {d : Nat} (hd : d < 4) : ∃ r, D[d]? = some r ∧ r.length = 3 ∧ (∀ c ∈ r, c.length ≤ 8) ∧ D.getD d [] = r := by
  have hl : d < D.length := by rw [h.1]; exact hd
  refine ⟨D[d], List.getElem?_eq_getElem hl, (h.2 _ (List.getElem_mem hl)).1, (h.2 _ (List.getElem_mem hl)).2, ?_⟩
  simp [List.getD, List.getElem?_eq_getElem hl]
theorem Shape.cell {D : List (List Bs)} (h : Shape D) {d s : Nat} (hd : d < 4) (hs : s < 3) : ∃ r, D[d]? = some r ∧ r.length = 3 ∧ r[s]? = some (cellAt D d s) ∧ (cellAt D d s).length ≤ 8 := by
  obtain ⟨r, h1, h2, h3, h4⟩ := h.row hd
  have hl : s < r.length := by rw [h2]; exact hs
  have e : cellAt D d s = r[s] := by unfold cellAt; rw [h4]; simp [List.getD, List.getElem?_eq_getElem hl]
  exact ⟨r, h1, h2, by rw [e]; exact List.getElem?_eq_getElem hl, by rw [e]; exact h3 _ (List.getElem_mem hl)⟩
end Go.Proofs.Ytlbnkoahkfhimaa.M

/- Harm and mending, in plain Lean: twice, one alone, all mended. No program in sight. -/
import Derived.Test.YtlbnkoahkfhimaaPureD
namespace Go.Proofs.Ytlbnkoahkfhimaa.M
set_option linter.unusedVariables false
theorem turn_back (c : UInt8) : (c ^^^ 1) ^^^ 1 = c := by rw [UInt8.xor_assoc, UInt8.xor_self, UInt8.xor_zero]
theorem set_set_same {b : Bs} {n : Nat} (hn : n < b.length) : (b.set n (b.getD n 0 ^^^ 1)).set n ((b.set n (b.getD n 0 ^^^ 1)).getD n 0 ^^^ 1) = b := by
  have e : (b.set n (b.getD n 0 ^^^ 1)).getD n 0 = b.getD n 0 ^^^ 1 := by simp [List.getD, List.getElem?_set_self hn]
  rw [e, turn_back, List.set_set]
  have : b.getD n 0 = b[n] := by simp [List.getD, List.getElem?_eq_getElem hn]
  rw [this, List.set_getElem_self]
theorem setA_same {D : List (List Bs)} (h : Shape D) {d s : Nat} (hd : d < 4) (hs : s < 3) (b : Bs) (hb : b.length ≤ 8) : setA (setA D d s b) d s (cellAt D d s) = D :=
  shape_ext (shape_setA (shape_setA h d s hb) d s (cell_le h hd hs)) h fun d' s' _ _ => by
    rw [cellAt_set (shape_setA h d s hb) hd hs, cellAt_set h hd hs]
    by_cases hh : d' = d ∧ s' = s
    · rw [if_pos hh, hh.1, hh.2]
    · rw [if_neg hh, if_neg hh]
/-- A byte that rots twice. -/
theorem rot_back {a : Arr} (h : Shape a.disks) (d s n : Int) : rotA (rotA a d s n).1 d s n = (a, (rotA a d s n).2) ∧ ((rotA a d s n).2 = 0 → (rotA a d s n).1 ≠ a) ∧ Shape (rotA a d s n).1.disks := by
  rcases rot_cases a d s n with e | ⟨d', s', n', rfl, rfl, rfl, hd, hs, hn, e⟩
  · rw [e]
    exact ⟨e, fun h => by simp at h, h⟩
  · have hb : ((cellAt a.disks d' s').set n' ((cellAt a.disks d' s').getD n' 0 ^^^ 1)).length ≤ 8 := by rw [List.length_set]; exact cell_le h hd hs
    have hc : cellAt (setA a.disks d' s' ((cellAt a.disks d' s').set n' ((cellAt a.disks d' s').getD n' 0 ^^^ 1))) d' s' = (cellAt a.disks d' s').set n' ((cellAt a.disks d' s').getD n' 0 ^^^ 1) := by
      rw [cellAt_set h hd hs, if_pos ⟨rfl, rfl⟩]
    rw [e]
    refine ⟨?_, fun _ => ?_, shape_setA h _ _ hb⟩
    · simp only []
      unfold rotA
      rw [if_neg]
      · simp only [Int.toNat_natCast]
        rw [hc, set_set_same hn, setA_same h hd hs _ hb]
      · simp only [Int.toNat_natCast, not_or, Bool.not_eq_false]
        rw [hc, List.length_set]
        exact ⟨thereB_iff.2 ⟨by omega, by omega, by omega, by omega⟩, by omega, by omega⟩
    · intro he
      have h1 : setA a.disks d' s' ((cellAt a.disks d' s').set n' ((cellAt a.disks d' s').getD n' 0 ^^^ 1)) = a.disks := congrArg Arr.disks he
      rw [h1] at hc
      have h2 : (cellAt a.disks d' s')[n'] = ((cellAt a.disks d' s').set n' ((cellAt a.disks d' s').getD n' 0 ^^^ 1))[n']'(by rw [List.length_set]; exact hn) := by
        congr 1
      rw [List.getElem_set_self] at h2
      have h3 : (cellAt a.disks d' s').getD n' 0 = (cellAt a.disks d' s')[n'] := by simp [List.getD, List.getElem?_eq_getElem hn]
      rw [h3] at h2
      exact turn_ne _ h2
theorem gone_shape' {a : Arr} (h : Shape a.disks) (d : Int) : Shape (goneA a d).1.disks := by
  rcases gone_cases a d with e | ⟨d', _, _, e⟩
  · rw [e]; exact h
  · rw [e]; exact gone_shape h d'
theorem gone_back (a : Arr) (d : Int) : goneA (goneA a d).1 d = goneA a d := by
  unfold goneA
  by_cases h : d < 0 ∨ 4 ≤ d
  · rw [if_pos h, if_pos h]
  · rw [if_neg h, if_neg h]
    simp
/-! ### one harm -/
theorem bad_four {l : List Bs} {s : Nat} (hl : l.length = 4) : badL l s = ([0, 1, 2, 3].filter fun d => !okC l s d) := by
  unfold badL; rw [hl]; rfl
theorem all_ok {l : List Bs} {s : Nat} (h : (badL l s).length ≤ 0) {d : Nat} (hd : d < l.length) : okC l s d = true := by
  cases hk : okC l s d with
  | true => rfl
  | false =>
    have := mem_badL.2 ⟨hd, hk⟩
    rw [List.eq_nil_of_length_eq_zero (Nat.le_zero.1 h)] at this
    cases this
theorem bad_only {l : List Bs} {s d : Nat} (hl : l.length = 4) (hd : d < 4) (h : ∀ e, e < 4 → okC l s e = if e = d then false else true) : badL l s = [d] := by
  rw [bad_four hl]
  have h0 := h 0 (by decide)
  have h1 := h 1 (by decide)
  have h2 := h 2 (by decide)
  have h3 := h 3 (by decide)
  match d, hd with
  | 0, _ => simp at h0 h1 h2 h3; simp [h0, h1, h2, h3]
  | 1, _ => simp at h0 h1 h2 h3; simp [h0, h1, h2, h3]
  | 2, _ => simp at h0 h1 h2 h3; simp [h0, h1, h2, h3]
  | 3, _ => simp at h0 h1 h2 h3; simp [h0, h1, h2, h3]
theorem one_rot {a : Arr} {Q : Nat → List Bs} (h : Good a Q) (h0 : worstA a.disks = 0) {d s n : Int} (he : (rotA a d s n).2 = 0) : Good (rotA a d s n).1 Q ∧ worstA (rotA a d s n).1.disks = 1 := by
  have hz := worst_le.1 (Nat.le_of_eq h0)
  have hok : ∀ d s, d < 4 → s < 3 → (readC (cellAt a.disks d s) d s).2 = 0 := fun d s hd hs => by
    have := all_ok (hz s hs) (d := d) (by rw [cellsA_len, h.shape.1]; exact hd)
    rw [okC_true, cellsA_get] at this
    exact this
  refine ⟨good_rot h fun d' s' _ _ hd hs => hok d' s' hd hs, ?_⟩
  rcases rot_cases a d s n with e | ⟨d', s', n', rfl, rfl, rfl, hd, hs, hn, e⟩
  · rw [e] at he; simp at he
  · rw [e]
    have hb : ((cellAt a.disks d' s').set n' ((cellAt a.disks d' s').getD n' 0 ^^^ 1)).length ≤ 8 := by rw [List.length_set]; exact cell_le h.shape hd hs
    have hbad := rot_bad (hok d' s' hd hs) hn
    generalize (cellAt a.disks d' s').set n' ((cellAt a.disks d' s').getD n' 0 ^^^ 1) = b at *
    have e1 : badL (cellsA (setA a.disks d' s' b) s') s' = [d'] := bad_only (by rw [cellsA_len, setA_len, h.shape.1]) hd fun e he => by
      rw [set_okC h.shape hd hs]
      by_cases hed : e = d'
      · rw [if_pos hed, if_pos hed]; simpa using hbad
      · rw [if_neg hed, if_neg hed]
        exact all_ok (hz s' hs) (by rw [cellsA_len, h.shape.1]; exact he)
    have up : worstA (setA a.disks d' s' b) ≤ 1 := worst_le.2 fun t ht => by
      by_cases hts : t = s'
      · rw [hts, e1]; exact Nat.le_refl _
      · rw [set_cells h.shape hd hs b hb hts]
        have := hz t ht
        omega
    have lo : ¬ worstA (setA a.disks d' s' b) ≤ 0 := fun hw => by
      have := worst_le.1 hw s' hs
      rw [e1] at this
      simp at this
    show worstA (setA a.disks d' s' b) = 1
    omega
theorem one_gone {a : Arr} {Q : Nat → List Bs} (h : Good a Q) (h0 : worstA a.disks = 0) {d : Int} (he : (goneA a d).2 = 0) : Good (goneA a d).1 Q ∧ worstA (goneA a d).1.disks = 1 := by
  have hz := worst_le.1 (Nat.le_of_eq h0)
  refine ⟨good_gone h d, ?_⟩
  rcases gone_cases a d with e | ⟨d', _, hd, e⟩
  · rw [e] at he; simp at he
  · rw [e]
    have e1 : ∀ s, s < 3 → badL (cellsA (a.disks.set d' [[], [], []]) s) s = [d'] := fun s hs => bad_only (by rw [cellsA_len, List.length_set, h.shape.1]) hd fun e he => by
      rw [gone_okC h.shape hd hs]
      by_cases hed : e = d'
      · rw [if_pos hed, if_pos hed]
      · rw [if_neg hed, if_neg hed]
        exact all_ok (hz s hs) (by rw [cellsA_len, h.shape.1]; exact he)
    have up : worstA (a.disks.set d' [[], [], []]) ≤ 1 := worst_le.2 fun t ht => by rw [e1 t ht]; exact Nat.le_refl _
    have lo : ¬ worstA (a.disks.set d' [[], [], []]) ≤ 0 := fun hw => by
      have := worst_le.1 hw 0 (by decide)
      rw [e1 0 (by decide)] at this
      simp at this
    show worstA (a.disks.set d' [[], [], []]) = 1
    omega
/-! ### all mended -/
theorem mendsTo_next (a : Arr) (k : Nat) : mendsTo a (k + 1) = (mendA (mendsTo a k) (k : Nat)).1 := by unfold mendsTo; rw [List.range_succ]; simp
theorem mendNs_next (a : Arr) (k : Nat) : mendNs a (k + 1) = mendNs a k ++ [(mendA (mendsTo a k) (k : Nat)).2.1] := by unfold mendNs; rw [List.range_succ]; simp
theorem mendNs_len (a : Arr) (k : Nat) : (mendNs a k).length = k := by simp [mendNs]
theorem mend_shape {a : Arr} (h : Shape a.disks) (s : Int) : Shape (mendA a s).1.disks := by
  by_cases hs : s < 0 ∨ 3 ≤ s
  · rw [mend_out hs]; exact h
  · obtain ⟨s, rfl⟩ := Int.eq_ofNat_of_zero_le (show 0 ≤ s by omega)
    have hs3 : s < 3 := by omega
    by_cases hd : (dataL (cellsA a.disks s) s).2 = 0
    · rw [mend_had hs3 hd]
      exact putTo_shape h s (make_lens (data_blocks hd).2.1 s) 4
    · rw [mend_lost hs3 hd]; exact h
theorem mends_shape {a : Arr} (h : Shape a.disks) (k : Nat) : Shape (mendsTo a k).disks := by
  induction k with
  | zero => exact h
  | succ k ih => rw [mendsTo_next]; exact mend_shape ih _
/-- Behind mending so many stripes, of what is calm. -/
theorem good_mends {a : Arr} {Q : Nat → List Bs} (h : Good a Q) (hc : Calm a) (k : Nat) (hk : k ≤ 3) : Good (mendsTo a k) Q ∧ Calm (mendsTo a k) ∧ ∀ s, s < k → badL (cellsA (mendsTo a k).disks s) s = [] := by
  induction k with
  | zero => exact ⟨h, hc, fun s hs => by omega⟩
  | succ k ih =>
    obtain ⟨g1, g2, g3⟩ := ih (by omega)
    rw [mendsTo_next]
    have hk3 : k < 3 := by omega
    refine ⟨good_mend g1 _, ?_⟩
    rw [good_mended g1 hk3 (g2 k hk3)]
    have H := g1.has k hk3
    obtain ⟨_, p2, p3⟩ := good_put g1 hk3 H.dlen H.blk H.zero
    refine ⟨fun s hs => ?_, fun s hs => ?_⟩
    · by_cases hsk : s = k
      · rw [hsk, p2]; decide
      · rw [p3 s hsk]; exact g2 s hs
    · by_cases hsk : s = k
      · rw [hsk, p2]
      · rw [p3 s hsk]; exact g3 s (by omega)
/-- What is well is as it was, mended. -/
theorem mend_well {a : Arr} {Q : Nat → List Bs} (h : Good a Q) {s : Nat} (hs : s < 3) (hb : badL (cellsA a.disks s) s = []) : mendA a (s : Nat) = (a, 0, 0) := by
  rw [good_mended h hs (by rw [hb]; decide), hb]
  have H := h.has s hs
  have e : putTo a.disks s (makeL (Q s) s) 4 = a.disks := shape_ext (putTo_shape h.shape s (make_lens H.blk s) 4) h.shape fun d t hd ht => by
    rw [putTo_cell h.shape hs (make_lens H.blk s) (Nat.le_refl 4)]
    by_cases hts : t = s
    · rw [if_pos ⟨hd, hts⟩, hts]
      have hdl : d < (Q s).length := by rw [H.dlen]; exact hd
      rw [make_get s hdl]
      have hok := all_ok (l := cellsA a.disks s) (s := s) (by rw [hb]; decide) (d := d) (by rw [cellsA_len, h.shape.1]; exact hd)
      have hr := H.ok d hd hok
      rw [okC_true] at hok
      rw [cellsA_get] at hok hr
      obtain ⟨r1, _⟩ := readC_ok (b := cellAt a.disks d s) (d := d) (s := s) (x := (Q s).getD d []) (by rw [← hr, ← hok])
      exact r1.symm
    · rw [if_neg (fun x => hts x.2)]
  unfold putA
  simp only [Int.toNat_natCast, e, List.length_nil, Int.natCast_zero]
  have := h.none_
  cases a
  simp only at this
  rw [this]
theorem mends_well {a : Arr} {Q : Nat → List Bs} (h : Good a Q) (hb : ∀ s, s < 3 → badL (cellsA a.disks s) s = []) (k : Nat) (hk : k ≤ 3) : mendsTo a k = a ∧ mendNs a k = List.replicate k 0 := by
  induction k with
  | zero => exact ⟨rfl, rfl⟩
  | succ k ih =>
    obtain ⟨i1, i2⟩ := ih (by omega)
    have e := mend_well h (s := k) (by omega) (hb k (by omega))
    rw [mendsTo_next, mendNs_next, i1, i2, e]
    refine ⟨rfl, ?_⟩
    rw [List.replicate_succ']
/-- What can't be mended is let be. -/
theorem mend_only {a : Arr} (h : Shape a.disks) (s : Int) : ((mendA a s).2.2 ≠ 0 → (mendA a s).1 = a ∧ ((mendA a s).2.2 = 3 ∨ 1 < (mendA a s).2.1)) ∧ ((mendA a s).2.2 = 0 → (∀ k : Nat, k < 3 → (k : Int) ≠ s → cellsA (mendA a s).1.disks k = cellsA a.disks k) ∧ (mendA a s).2.1 ≤ 1) := by
  by_cases hs : s < 0 ∨ 3 ≤ s
  · rw [mend_out hs]; simp
  · obtain ⟨s, rfl⟩ := Int.eq_ofNat_of_zero_le (show 0 ≤ s by omega)
    have hs3 : s < 3 := by omega
    by_cases hd : (dataL (cellsA a.disks s) s).2 = 0
    · obtain ⟨b1, b2, b3⟩ := data_blocks hd
      rw [mend_had hs3 hd]
      refine ⟨fun h => by simp at h, fun _ => ⟨fun k _ hks => put_others h hs3 (make_lens b2 s) (Nat.le_refl 4) (by omega), ?_⟩⟩
      simp only []
      omega
    · obtain ⟨d1, d2⟩ := data_lost9 hd
      rw [mend_lost hs3 hd]
      refine ⟨fun _ => ⟨rfl, .inr ?_⟩, fun h => absurd h hd⟩
      simp only []
      omega
end Go.Proofs.Ytlbnkoahkfhimaa.M

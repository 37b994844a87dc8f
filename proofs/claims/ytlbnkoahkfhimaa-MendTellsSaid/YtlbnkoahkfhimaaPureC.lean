/- Arrays, in plain Lean: what a stripe has, and that deeds, harm and mending keep it. No program in sight. -/
import Derived.Test.YtlbnkoahkfhimaaPureB
import Derived.Test.YtlbnkoahkfhimaaPure6
namespace Go.Proofs.Ytlbnkoahkfhimaa.M
set_option linter.unusedVariables false
/-- What a stripe has: its four blocks, which are noughts together; each cell that is there has its own. -/
structure Has (l : List Bs) (s : Nat) (D : List Bs) : Prop where
  len : l.length = 4
  dlen : D.length = 4
  blk : Blocks4 D
  zero : xorAll D = zero4
  ok : ∀ d, d < 4 → okC l s d = true → (readC (l.getD d []) d s).1 = D.getD d []
theorem list4 {α : Type} {D : List α} (h : D.length = 4) : ∃ a b c d, D = [a, b, c, d] := by
  match D, h with
  | [a, b, c, d], _ => exact ⟨a, b, c, d, rfl⟩
/-- What it has is told, where one at most is none. -/
theorem has_good {l D : List Bs} {s i : Nat} (h : Has l s D) (hi : badL l s = [i]) : goodTo l s l.length = D.eraseIdx i := by
  obtain ⟨h1, h2, h3⟩ := one_bad hi
  have hl := h.len
  rw [hl] at h1 h3
  obtain ⟨a, b, c, d, hD⟩ := list4 h.dlen
  have ok := h.ok
  have e0 := fun hne => ok 0 (by decide) (h3 0 (by decide) hne)
  have e1 := fun hne => ok 1 (by decide) (h3 1 (by decide) hne)
  have e2 := fun hne => ok 2 (by decide) (h3 2 (by decide) hne)
  have e3 := fun hne => ok 3 (by decide) (h3 3 (by decide) hne)
  have g0 := fun hne => h3 0 (by decide) hne
  have g1 := fun hne => h3 1 (by decide) hne
  have g2 := fun hne => h3 2 (by decide) hne
  have g3 := fun hne => h3 3 (by decide) hne
  rw [hD] at e0 e1 e2 e3 ⊢
  unfold goodTo
  rw [hl, show List.range 4 = [0, 1, 2, 3] from rfl]
  match i, h1 with
  | 0, _ => simp [h2, g1, g2, g3]; exact ⟨e1 (by decide), e2 (by decide), e3 (by decide)⟩
  | 1, _ => simp [h2, g0, g2, g3]; exact ⟨e0 (by decide), e2 (by decide), e3 (by decide)⟩
  | 2, _ => simp [h2, g0, g1, g3]; exact ⟨e0 (by decide), e1 (by decide), e3 (by decide)⟩
  | 3, _ => simp [h2, g0, g1, g2]; exact ⟨e0 (by decide), e1 (by decide), e2 (by decide)⟩
theorem has_dat {l D : List Bs} {s : Nat} (h : Has l s D) (hb : ¬ 1 < (badL l s).length) : dataL l s = (D, 0) := by
  unfold dataL
  rw [if_neg hb]
  congr 1
  apply List.ext_getElem
  · rw [datTo_len, h.len, h.dlen]
  · intro i hi hj
    have hil : i < l.length := by rw [datTo_len] at hi; exact hi
    have hi4 : i < 4 := by rw [← h.len]; exact hil
    have hDi : D.getD i [] = D[i] := by simp [List.getD, List.getElem?_eq_getElem hj]
    cases hk : okC l s i with
    | true =>
      have := h.ok i hi4 hk
      rw [hDi] at this
      rw [← this]
      simp [datTo, hk]
    | false =>
      have hs := bad_single hb hil hk
      rw [← xor_others h.blk hj h.zero, ← has_good h hs]
      simp [datTo, hk]
/-- Cells of what it has. -/
theorem make_get {D : List Bs} (s : Nat) {d : Nat} (hd : d < D.length) : (makeL D s).getD d [] = cellB d s (D.getD d []) := by
  unfold makeL makeTo
  simp [List.getD, hd]
theorem make_read {D : List Bs} {s : Nat} (hD : D.length = 4) (h4 : Blocks4 D) (hs : s < 3) {d : Nat} (hd : d < 4) : readC ((makeL D s).getD d []) d s = (D.getD d [], 0) := by
  rw [make_get s (by rw [hD]; exact hd)]
  exact readC_cellB d s (by have hl : d < D.length := by rw [hD]; exact hd
                            simp [List.getD, List.getElem?_eq_getElem hl]; exact h4 _ (List.getElem_mem hl)) (by omega) (by omega)
theorem has_make {D : List Bs} {s : Nat} (hD : D.length = 4) (h4 : Blocks4 D) (hz : xorAll D = zero4) (hs : s < 3) : Has (makeL D s) s D ∧ badL (makeL D s) s = [] := by
  have hl : (makeL D s).length = 4 := by rw [makeL_len, hD]
  refine ⟨⟨hl, hD, h4, hz, fun d hd _ => by rw [make_read hD h4 hs hd]⟩, ?_⟩
  unfold badL
  rw [hl, List.filter_eq_nil_iff]
  intro d hd
  have hd4 : d < 4 := by simpa using hd
  unfold okC
  rw [make_read hD h4 hs hd4]
  simp
theorem make_lens {D : List Bs} (h4 : Blocks4 D) (s : Nat) : ∀ c ∈ makeL D s, c.length ≤ 8 := by
  intro c hc
  unfold makeL makeTo at hc
  simp only [List.mem_map, List.mem_range] at hc
  obtain ⟨d, hd, rfl⟩ := hc
  rw [cellB_length]
  have : (D.getD d []).length = 4 := by simp [List.getD, List.getElem?_eq_getElem hd]; exact h4 _ (List.getElem_mem hd)
  omega
/-! ### cells that are put -/
theorem setA_len (D : List (List Bs)) (d s : Nat) (b : Bs) : (setA D d s b).length = D.length := by unfold setA; rw [List.length_set]
theorem shape_setA {D : List (List Bs)} (h : Shape D) (d s : Nat) {b : Bs} (hb : b.length ≤ 8) : Shape (setA D d s b) := by
  unfold setA
  refine ⟨by rw [List.length_set]; exact h.1, fun r hr => ?_⟩
  rcases List.mem_or_eq_of_mem_set hr with hr | rfl
  · exact h.2 r hr
  · by_cases hd : d < 4
    · obtain ⟨r, _, h2, h3, h4⟩ := h.row hd
      rw [h4]
      refine ⟨by rw [List.length_set]; exact h2, fun c hc => ?_⟩
      rcases List.mem_or_eq_of_mem_set hc with hc | rfl
      · exact h3 c hc
      · exact hb
    · rw [List.set_eq_of_length_le (by rw [h.1]; omega)] at hr
      have : D.getD d [] = [] := by simp [List.getD, List.getElem?_eq_none (show D.length ≤ d by rw [h.1]; omega)]
      rw [this] at hr ⊢
      exact h.2 _ hr
theorem cellAt_set {D : List (List Bs)} (h : Shape D) {d s : Nat} (hd : d < 4) (hs : s < 3) (b : Bs) (d' s' : Nat) : cellAt (setA D d s b) d' s' = if d' = d ∧ s' = s then b else cellAt D d' s' := by
  obtain ⟨r, h1, h2, _, h4⟩ := h.row hd
  have hl : d < D.length := by rw [h.1]; exact hd
  unfold cellAt setA
  rw [h4]
  by_cases hdd : d' = d
  · subst hdd
    have e : (D.set d' (r.set s b)).getD d' [] = r.set s b := by simp [List.getD, List.getElem?_set_self hl]
    rw [e, h4]
    by_cases hss : s' = s
    · subst hss
      rw [if_pos ⟨rfl, rfl⟩]
      simp [List.getD, List.getElem?_set_self (show s' < r.length by omega)]
    · rw [if_neg (fun e => hss e.2)]
      simp [List.getD, List.getElem?_set_ne (Ne.symm hss)]
  · rw [if_neg (fun e => hdd e.1)]
    simp [List.getD, List.getElem?_set_ne (Ne.symm hdd)]
theorem cells_ext {D E : List (List Bs)} (hD : D.length = 4) (hE : E.length = 4) {s : Nat} (h : ∀ d, d < 4 → cellAt D d s = cellAt E d s) : cellsA D s = cellsA E s := by
  apply List.ext_getElem (by rw [cellsA_len, cellsA_len, hD, hE])
  intro i h1 h2
  have hi : i < 4 := by rw [cellsA_len, hD] at h1; exact h1
  have a1 := cellsA_get D s i
  have a2 := cellsA_get E s i
  have := h i hi
  rw [← a1, ← a2] at this
  simpa [List.getD, List.getElem?_eq_getElem h1, List.getElem?_eq_getElem h2] using this
theorem putTo_next (D : List (List Bs)) (s : Nat) (l : List Bs) (k : Nat) : putTo D s l (k + 1) = setA (putTo D s l k) k s (l.getD k []) := by unfold putTo; rw [List.range_succ]; simp
theorem putTo_shape {D : List (List Bs)} (h : Shape D) (s : Nat) {l : List Bs} (hl : ∀ c ∈ l, c.length ≤ 8) (k : Nat) : Shape (putTo D s l k) := by
  induction k with
  | zero => exact h
  | succ k ih =>
    rw [putTo_next]
    refine shape_setA ih k s ?_
    by_cases hk : k < l.length
    · simp [List.getD, List.getElem?_eq_getElem hk]; exact hl _ (List.getElem_mem hk)
    · simp [List.getD, List.getElem?_eq_none (show l.length ≤ k by omega)]
theorem putTo_cell {D : List (List Bs)} (h : Shape D) {s : Nat} (hs : s < 3) {l : List Bs} (hl : ∀ c ∈ l, c.length ≤ 8) {k : Nat} (hk : k ≤ 4) (d' s' : Nat) : cellAt (putTo D s l k) d' s' = if d' < k ∧ s' = s then l.getD d' [] else cellAt D d' s' := by
  induction k with
  | zero => rw [if_neg (by omega)]; rfl
  | succ k ih =>
    rw [putTo_next, cellAt_set (putTo_shape h s hl k) (by omega) hs, ih (by omega)]
    by_cases h1 : d' = k
    · subst h1
      by_cases h2 : s' = s
      · rw [if_pos ⟨rfl, h2⟩, if_pos ⟨by omega, h2⟩]
      · rw [if_neg (fun e => h2 e.2), if_neg (fun e => h2 e.2), if_neg (fun e => h2 e.2)]
    · rw [if_neg (fun e => h1 e.1)]
      by_cases h2 : d' < k ∧ s' = s
      · rw [if_pos h2, if_pos ⟨by omega, h2.2⟩]
      · rw [if_neg h2, if_neg (fun e => h2 ⟨by omega, e.2⟩)]
theorem shape_ext {D E : List (List Bs)} (hD : Shape D) (hE : Shape E) (h : ∀ d s, d < 4 → s < 3 → cellAt D d s = cellAt E d s) : D = E := by
  apply List.ext_getElem (by rw [hD.1, hE.1])
  intro i h1 h2
  have hi : i < 4 := by rw [hD.1] at h1; exact h1
  have r1 := hD.2 _ (List.getElem_mem h1)
  have r2 := hE.2 _ (List.getElem_mem h2)
  apply List.ext_getElem (by rw [r1.1, r2.1])
  intro j g1 g2
  have := h i j hi (by rw [r1.1] at g1; exact g1)
  unfold cellAt at this
  simpa [List.getD, List.getElem?_eq_getElem h1, List.getElem?_eq_getElem h2, List.getElem?_eq_getElem g1, List.getElem?_eq_getElem g2] using this
theorem put_cells {D : List (List Bs)} (h : Shape D) {s : Nat} (hs : s < 3) {l : List Bs} (h4 : l.length = 4) (hl : ∀ c ∈ l, c.length ≤ 8) : cellsA (putTo D s l 4) s = l := by
  have hlen : (cellsA (putTo D s l 4) s).length = 4 := by rw [cellsA_len, (putTo_shape h s hl 4).1]
  apply List.ext_getElem (by rw [hlen, h4])
  intro i h1 h2
  have hi : i < 4 := by rw [hlen] at h1; exact h1
  have a1 := cellsA_get (putTo D s l 4) s i
  rw [putTo_cell h hs hl (Nat.le_refl 4), if_pos ⟨hi, rfl⟩] at a1
  simpa [List.getD, List.getElem?_eq_getElem h1, List.getElem?_eq_getElem h2] using a1
theorem put_others {D : List (List Bs)} (h : Shape D) {s : Nat} (hs : s < 3) {l : List Bs} (hl : ∀ c ∈ l, c.length ≤ 8) {k : Nat} (hk : k ≤ 4) {t : Nat} (ht : t ≠ s) : cellsA (putTo D s l k) t = cellsA D t :=
  cells_ext (putTo_shape h s hl k).1 h.1 fun d _ => by rw [putTo_cell h hs hl hk, if_neg (fun e => ht e.2)]
theorem putTo_twice {D : List (List Bs)} (h : Shape D) {s : Nat} (hs : s < 3) {l : List Bs} (hl : ∀ c ∈ l, c.length ≤ 8) {k : Nat} (hk : k ≤ 4) : putTo (putTo D s l k) s l 4 = putTo D s l 4 :=
  shape_ext (putTo_shape (putTo_shape h s hl k) s hl 4) (putTo_shape h s hl 4) fun d t hd _ => by
    rw [putTo_cell (putTo_shape h s hl k) hs hl (Nat.le_refl 4), putTo_cell h hs hl (Nat.le_refl 4), putTo_cell h hs hl hk]
    by_cases ht : t = s
    · rw [if_pos ⟨hd, ht⟩, if_pos ⟨hd, ht⟩]
    · rw [if_neg (fun e => ht e.2), if_neg (fun e => ht e.2), if_neg (fun e => ht e.2)]
/-! ### a plan -/
theorem whereN_ne {n : Nat} (hn : n < 9) : whereN n ≠ 3 - n / 3 ∧ whereN n < 4 := by unfold whereN; split <;> omega
theorem whereN_inj {n m : Nat} (hn : n < 9) (hm : m < 9) (hs : n / 3 = m / 3) (h : whereN n = whereN m) : n = m := by
  unfold whereN at h; split at h <;> split at h <;> omega
theorem blocks_set {D : List Bs} (h : Blocks4 D) {i : Nat} {b : Bs} (hb : b.length = 4) : Blocks4 (D.set i b) := fun c hc => by
  rcases List.mem_or_eq_of_mem_set hc with hc | rfl
  · exact h c hc
  · exact hb
theorem blocks_get {D : List Bs} (h : Blocks4 D) {i : Nat} (hi : i < D.length) : (D.getD i []).length = 4 := by
  simp [List.getD, List.getElem?_eq_getElem hi]; exact h _ (List.getElem_mem hi)
/-- The blocks behind a deed, without what they are together. -/
def planE (data : List Bs) (d : Deed) : List Bs :=
  if d.kind = 1 then data.set (whereN d.n.toNat) d.data
  else (data.set (whereN d.n.toNat) (data.getD (whereN d.m.toNat) [])).set (whereN d.m.toNat) (data.getD (whereN d.n.toNat) [])
theorem planData_eq (data : List Bs) (d : Deed) : planData data d = (planE data d).set (3 - d.n.toNat / 3) (xorAll ((planE data d).eraseIdx (3 - d.n.toNat / 3))) := rfl
theorem planE_len (D : List Bs) (d : Deed) : (planE D d).length = D.length := by unfold planE; split <;> simp
theorem planE_blocks {D : List Bs} {d : Deed} (hr : wrongI d = 0) (hD : D.length = 4) (h4 : Blocks4 D) : Blocks4 (planE D d) := by
  obtain ⟨⟨n0, n1⟩, hq⟩ := wrong_ok hr
  have wn := (whereN_ne (n := d.n.toNat) (by omega)).2
  unfold planE
  rcases hq with ⟨hk, _, hl⟩ | ⟨hk, ⟨m0, m1⟩, _, _⟩
  · rw [if_pos hk]; exact blocks_set h4 hl
  · rw [if_neg (by omega)]
    have wm := (whereN_ne (n := d.m.toNat) (by omega)).2
    exact blocks_set (blocks_set h4 (blocks_get h4 (by omega))) (blocks_get h4 (by omega))
theorem plan_zero {D : List Bs} {d : Deed} (hr : wrongI d = 0) (hD : D.length = 4) (h4 : Blocks4 D) : (planData D d).length = 4 ∧ Blocks4 (planData D d) ∧ xorAll (planData D d) = zero4 := by
  obtain ⟨⟨n0, n1⟩, hq⟩ := wrong_ok hr
  have he := planE_blocks hr hD h4
  have hel : (planE D d).length = 4 := by rw [planE_len, hD]
  have hb := blocks_set he (i := 3 - d.n.toNat / 3) (xorAll_length ((planE D d).eraseIdx (3 - d.n.toNat / 3)))
  rw [planData_eq]
  refine ⟨by rw [List.length_set, hel], hb, ?_⟩
  have hk : 3 - d.n.toNat / 3 < ((planE D d).set (3 - d.n.toNat / 3) (xorAll ((planE D d).eraseIdx (3 - d.n.toNat / 3)))).length := by rw [List.length_set, hel]; omega
  have h := xorAll_eraseIdx hb hk
  rw [List.getElem_set_self, List.eraseIdx_set_eq, xorTwo_self] at h
  exact h.symm
/-- .. and what it has at a block's place. -/
theorem plan_get {D : List Bs} {d : Deed} (hr : wrongI d = 0) (hD : D.length = 4) {n : Nat} (hn : n < 9) (hs : n / 3 = d.n.toNat / 3) :
    (planData D d).getD (whereN n) [] = if d.kind = 1 ∧ (n : Int) = d.n then d.data else if d.kind = 2 ∧ (n : Int) = d.n then D.getD (whereN d.m.toNat) [] else if d.kind = 2 ∧ (n : Int) = d.m then D.getD (whereN d.n.toNat) [] else D.getD (whereN n) [] := by
  obtain ⟨⟨n0, n1⟩, hq⟩ := wrong_ok hr
  obtain ⟨hne, hw⟩ := whereN_ne hn
  have hne' : 3 - d.n.toNat / 3 ≠ whereN n := by rw [← hs]; exact fun e => hne e.symm
  have hnn : d.n.toNat < 9 := by omega
  have e1 : (planData D d).getD (whereN n) [] = (planE D d).getD (whereN n) [] := by
    rw [planData_eq]; simp [List.getD, List.getElem?_set_ne hne']
  rw [e1]
  unfold planE
  rcases hq with ⟨hk, _, _⟩ | ⟨hk, ⟨m0, m1⟩, hnm, _⟩
  · rw [if_pos hk]
    by_cases h : (n : Int) = d.n
    · have : whereN d.n.toNat = whereN n := by rw [← h]; simp
      rw [if_pos ⟨hk, h⟩, this]
      simp [List.getD, List.getElem?_set_self (show whereN n < D.length by omega)]
    · rw [if_neg (fun e => h e.2), if_neg (fun e => h e.2), if_neg (by omega)]
      have : whereN d.n.toNat ≠ whereN n := fun e => h (by have := whereN_inj hnn hn hs.symm e; omega)
      simp [List.getD, List.getElem?_set_ne this]
  · rw [if_neg (by omega), if_neg (by omega)]
    have hmm : d.m.toNat < 9 := by omega
    have hms : d.m.toNat / 3 = d.n.toNat / 3 := by omega
    by_cases hm : (n : Int) = d.m
    · have hwm : whereN d.m.toNat = whereN n := by rw [← hm]; simp
      have e2 : ((D.set (whereN d.n.toNat) (D.getD (whereN d.m.toNat) [])).set (whereN d.m.toNat) (D.getD (whereN d.n.toNat) [])).getD (whereN n) [] = D.getD (whereN d.n.toNat) [] := by
        rw [hwm]
        simp only [List.getD]
        rw [List.getElem?_set_self (by rw [List.length_set]; omega)]
        rfl
      rw [e2]
      by_cases h : (n : Int) = d.n
      · rw [if_pos ⟨hk, h⟩, ← hm, ← h]
      · rw [if_neg (fun e => h e.2), if_pos ⟨hk, hm⟩]
    · have hwm : whereN d.m.toNat ≠ whereN n := fun e => hm (by have := whereN_inj hmm hn (by omega) e; omega)
      rw [if_neg (c := d.kind = 2 ∧ (n : Int) = d.m) (fun e => hm e.2)]
      by_cases h : (n : Int) = d.n
      · have : whereN d.n.toNat = whereN n := by rw [← h]; simp
        rw [if_pos ⟨hk, h⟩, this]
        simp only [List.getD]
        rw [List.getElem?_set_ne hwm, List.getElem?_set_self (by omega)]
        rfl
      · rw [if_neg (fun e => h e.2)]
        have hwn : whereN d.n.toNat ≠ whereN n := fun e => h (by have := whereN_inj hnn hn hs.symm e; omega)
        simp only [List.getD]
        rw [List.getElem?_set_ne hwm, List.getElem?_set_ne hwn]
end Go.Proofs.Ytlbnkoahkfhimaa.M

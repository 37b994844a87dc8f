/- Arrays that came of steps, in plain Lean: what their stripes have, behind each step. No program in sight. -/
import Derived.Test.YtlbnkoahkfhimaaPureC
namespace Go.Proofs.Ytlbnkoahkfhimaa.M
set_option linter.unusedVariables false
/-- An array that has in each stripe four blocks that are noughts together, and no intent. -/
structure Good (a : Arr) (Q : Nat → List Bs) : Prop where
  shape : Shape a.disks
  none_ : a.ints = []
  has : ∀ s, s < 3 → Has (cellsA a.disks s) s (Q s)
/-- Of each stripe one cell at most is none. -/
def Calm (a : Arr) : Prop := ∀ s, s < 3 → (badL (cellsA a.disks s) s).length ≤ 1
theorem worst_le {D : List (List Bs)} {n : Nat} : worstA D ≤ n ↔ ∀ s, s < 3 → (badL (cellsA D s) s).length ≤ n := by
  unfold worstA worstTo
  rw [show List.range 3 = [0, 1, 2] from rfl]
  simp only [List.foldl_cons, List.foldl_nil]
  constructor
  · intro h s hs
    match s, hs with
    | 0, _ => omega
    | 1, _ => omega
    | 2, _ => omega
  · intro h
    have h0 := h 0 (by decide)
    have h1 := h 1 (by decide)
    have h2 := h 2 (by decide)
    omega
theorem calm_iff {a : Arr} : worstA a.disks ≤ 1 ↔ Calm a := worst_le
def blocksQ (Q : Nat → List Bs) : List Bs := (List.range 9).map fun n => (Q (n / 3)).getD (whereN n) []
theorem blocksQ_len (Q : Nat → List Bs) : (blocksQ Q).length = 9 := by simp [blocksQ]
theorem blocksQ_get (Q : Nat → List Bs) {n : Nat} (hn : n < 9) : (blocksQ Q).getD n [] = (Q (n / 3)).getD (whereN n) [] := by
  unfold blocksQ; simp [List.getD, hn]
/-- A block, read. -/
theorem good_read {a : Arr} {Q : Nat → List Bs} (h : Good a Q) {n : Nat} (hn : n < 9) (hc : (badL (cellsA a.disks (n / 3)) (n / 3)).length ≤ 1) : readA a.disks (n : Nat) = ((Q (n / 3)).getD (whereN n) [], 0) := by
  have hs : n / 3 < 3 := by omega
  have hw := (whereN_ne hn).2
  have H := h.has _ hs
  unfold readA
  rw [if_neg (by simp; omega)]
  simp only [Int.toNat_natCast]
  have hg := cellsA_get a.disks (n / 3) (whereN n)
  by_cases hk : (readC (cellAt a.disks (whereN n) (n / 3)) (whereN n : Nat) (n / 3 : Nat)).2 = 0
  · rw [if_pos hk]
    have hok : okC (cellsA a.disks (n / 3)) (n / 3) (whereN n) = true := okC_true.2 (by rw [hg]; exact hk)
    have := H.ok _ hw hok
    rw [hg] at this
    rw [this]
  · rw [if_neg hk, has_dat H (by omega)]
    rfl
theorem good_blocks {a : Arr} {Q : Nat → List Bs} (h : Good a Q) (hc : Calm a) : blocksA a.disks = (blocksQ Q, 0) := by
  have hr : ∀ n, n < 9 → readA a.disks (n : Nat) = ((Q (n / 3)).getD (whereN n) [], 0) := fun n hn => good_read h hn (hc _ (by omega))
  have he : blocksE a.disks = 0 := by
    unfold blocksE
    have : ((List.range 9).map fun n => (readA a.disks (n : Nat)).2).find? (fun e => e ≠ 0) = none := by
      rw [List.find?_eq_none]
      intro e he
      simp only [List.mem_map, List.mem_range] at he
      obtain ⟨j, hj, rfl⟩ := he
      simp [hr j hj]
    rw [this]
    rfl
  unfold blocksA
  rw [if_pos he]
  congr 1
  unfold blocksTo blocksQ
  apply List.map_congr_left
  intro n hn
  rw [hr n (by simpa using hn)]
/-! ### a deed -/
def doQ (Q : Nat → List Bs) (d : Deed) : Nat → List Bs := fun s => if s = d.n.toNat / 3 then planData (Q s) d else Q s
theorem doQ_blocks {Q : Nat → List Bs} {d : Deed} (hr : wrongI d = 0) (hQ : ∀ s, s < 3 → (Q s).length = 4) : blocksQ (doQ Q d) = doD (blocksQ Q) d := by
  obtain ⟨⟨n0, n1⟩, hq⟩ := wrong_ok hr
  refine ext9 (blocksQ_len _) (by rw [doD_length, blocksQ_len]) fun i hi => ?_
  rw [blocksQ_get _ hi, doD_get _ d hr (blocksQ_len Q) i hi, blocksQ_get Q hi]
  unfold doQ
  have hn9 : d.n.toNat < 9 := by omega
  by_cases hs : i / 3 = d.n.toNat / 3
  · rw [if_pos hs, plan_get hr (hQ _ (by omega)) hi hs, blocksQ_get Q hn9, hs]
    rcases hq with ⟨hk, _⟩ | ⟨hk, ⟨m0, m1⟩, hnm, _⟩
    · simp [hk]
    · have hm9 : d.m.toNat < 9 := by omega
      have hms : d.m.toNat / 3 = d.n.toNat / 3 := by omega
      rw [blocksQ_get Q hm9, hms]
  · rw [if_neg hs]
    have h1 : (i : Int) ≠ d.n := by omega
    rw [if_neg (fun e => h1 e.2), if_neg (fun e => h1 e.2), if_neg]
    rintro ⟨hk, hm⟩
    rcases hq with ⟨hk', _⟩ | ⟨_, ⟨m0, m1⟩, hnm, _⟩
    · omega
    · omega
/-- All of an intent's cells are written, and it is gone. -/
def putA (a : Arr) (i : Int × List Bs) : Arr := ⟨putTo a.disks i.1.toNat i.2 4, []⟩
theorem write6P (a : Arr) (i : Int × List Bs) : writeA a i 6 = putA a i := rfl
theorem write6R (a : Arr) (i : Int × List Bs) : writeR a i 6 = putA a i := rfl
theorem cells_le {k : Int → Nat} (hk : k = cellsP ∨ k = cellsR) (n : Int) : k n ≤ 4 ∧ (5 < n → k n = 4) ∧ (n ≤ 0 → k n = 0 ∨ k n = 4) := by
  rcases hk with rfl | rfl
  · unfold cellsP; split <;> omega
  · unfold cellsR; omega
theorem mount_none (a : Arr) (h : a.ints = []) : mountA a = a := by unfold mountA mountTo; rw [h]; rfl
/-- However many of its writes are done: nothing, or all. -/
theorem mount_half {k : Int → Nat} (hk : k = cellsP ∨ k = cellsR) {a : Arr} (hs : Shape a.disks) (h : a.ints = []) {i : Int × List Bs} (hi : i.1.toNat < 3) (hl : ∀ c ∈ i.2, c.length ≤ 8) (n : Int) : mountA (writeK k a i n) = a ∨ mountA (writeK k a i n) = putA a i := by
  obtain ⟨k1, k2, k3⟩ := cells_le hk n
  by_cases h5 : 5 < n
  · right
    rw [mount_none _ (by unfold writeK; simp [h5])]
    unfold writeK putA
    simp [h5, k2 h5]
  · by_cases h0 : 0 < n
    · right
      have e : (writeK k a i n).ints = [i] := by unfold writeK; simp [h5, h0]
      unfold mountA mountTo
      rw [e]
      show writeA (writeK k a i n) i 6 = _
      rw [write6P]
      unfold putA writeK
      simp only [putTo_twice hs hi hl k1]
    · have e : (writeK k a i n).ints = [] := by unfold writeK; simp [h5, h0, h]
      rw [mount_none _ e]
      rcases k3 (by omega) with hz | hz
      · left
        unfold writeK
        rw [hz]
        simp [h5, h0]
        cases a
        rfl
      · right
        unfold writeK putA
        rw [hz]
        simp [h5, h0, h]
theorem plan_wrong {D : List (List Bs)} {d : Deed} (h : wrongI d ≠ 0) : planA D d = ((0, []), wrongI d) := by unfold planA; rw [if_pos h]
theorem plan_lost {D : List (List Bs)} {d : Deed} (h : wrongI d = 0) (h2 : (dataL (cellsA D (d.n.toNat / 3)) (d.n.toNat / 3)).2 ≠ 0) : planA D d = ((0, []), (dataL (cellsA D (d.n.toNat / 3)) (d.n.toNat / 3)).2) := by
  unfold planA
  rw [if_neg (by simpa using h)]
  simp only []
  rw [if_pos h2]
theorem plan_had {D : List (List Bs)} {d : Deed} (h : wrongI d = 0) (h2 : (dataL (cellsA D (d.n.toNat / 3)) (d.n.toNat / 3)).2 = 0) : planA D d = ((((d.n.toNat / 3 : Nat) : Int), makeL (planData (dataL (cellsA D (d.n.toNat / 3)) (d.n.toNat / 3)).1 d) (d.n.toNat / 3)), 0) := by
  unfold planA
  rw [if_neg (by simpa using h)]
  simp only []
  rw [if_neg (by simpa using h2)]
theorem data_lost9 {l : List Bs} {s : Nat} (h : (dataL l s).2 ≠ 0) : (dataL l s) = ([], 9) ∧ 1 < (badL l s).length := by
  unfold dataL at h ⊢
  split
  · rename_i hb; exact ⟨rfl, hb⟩
  · rename_i hb; rw [if_neg hb] at h; simp at h
theorem data_blocks {l : List Bs} {s : Nat} (h : (dataL l s).2 = 0) : (dataL l s).1.length = l.length ∧ Blocks4 (dataL l s).1 ∧ ¬ 1 < (badL l s).length := by
  unfold dataL at h ⊢
  split
  · rename_i hb; rw [if_pos hb] at h; simp at h
  · rename_i hb; exact ⟨datTo_len _ _ _, datTo_blocks _ _ _, hb⟩
/-- An intent: a stripe's number, four cells that are no longer than they may be. -/
theorem plan_form {D : List (List Bs)} (hs : Shape D) {d : Deed} (h : (planA D d).2 = 0) : wrongI d = 0 ∧ (planA D d).1.1 = ((d.n.toNat / 3 : Nat) : Int) ∧ (planA D d).1.1.toNat < 3 ∧ (planA D d).1.2.length = 4 ∧ ∀ c ∈ (planA D d).1.2, c.length ≤ 8 := by
  have hw : wrongI d = 0 := by
    by_cases hw : wrongI d = 0
    · exact hw
    · rw [plan_wrong hw] at h; exact h
  have hd : (dataL (cellsA D (d.n.toNat / 3)) (d.n.toNat / 3)).2 = 0 := by
    by_cases hd : (dataL (cellsA D (d.n.toNat / 3)) (d.n.toNat / 3)).2 = 0
    · exact hd
    · rw [plan_lost hw hd] at h; exact absurd h hd
  obtain ⟨b1, b2, _⟩ := data_blocks hd
  rw [cellsA_len, hs.1] at b1
  obtain ⟨p1, p2, _⟩ := plan_zero hw b1 b2
  obtain ⟨⟨n0, n1⟩, _⟩ := wrong_ok hw
  rw [plan_had hw hd]
  exact ⟨hw, rfl, by simp; omega, by rw [makeL_len, p1], make_lens p2 _⟩
theorem put_shape {a : Arr} (hs : Shape a.disks) {i : Int × List Bs} (hl : ∀ c ∈ i.2, c.length ≤ 8) : Shape (putA a i).disks := putTo_shape hs _ hl 4
/-- A stripe's cells are put. -/
theorem good_put {a : Arr} {Q : Nat → List Bs} (h : Good a Q) {s : Nat} (hs : s < 3) {D : List Bs} (hD : D.length = 4) (h4 : Blocks4 D) (hz : xorAll D = zero4) :
    Good (putA a ((s : Int), makeL D s)) (fun t => if t = s then D else Q t) ∧ badL (cellsA (putA a ((s : Int), makeL D s)).disks s) s = [] ∧ ∀ t, t ≠ s → cellsA (putA a ((s : Int), makeL D s)).disks t = cellsA a.disks t := by
  have hml : (makeL D s).length = 4 := by rw [makeL_len, hD]
  have e1 : cellsA (putA a ((s : Int), makeL D s)).disks s = makeL D s := put_cells h.shape hs hml (make_lens h4 s)
  have e2 : ∀ t, t ≠ s → cellsA (putA a ((s : Int), makeL D s)).disks t = cellsA a.disks t := fun t ht => put_others h.shape hs (make_lens h4 s) (Nat.le_refl 4) ht
  obtain ⟨m1, m2⟩ := has_make hD h4 hz hs
  refine ⟨⟨putTo_shape h.shape s (make_lens h4 s) 4, rfl, fun t ht => ?_⟩, by rw [e1]; exact m2, e2⟩
  by_cases hts : t = s
  · subst hts
    rw [e1]
    simpa using m1
  · rw [e2 t hts]
    simp only [if_neg hts]
    exact h.has t ht
theorem good_plan {a : Arr} {Q : Nat → List Bs} (h : Good a Q) {d : Deed} (hr : wrongI d = 0) (hc : (badL (cellsA a.disks (d.n.toNat / 3)) (d.n.toNat / 3)).length ≤ 1) : planA a.disks d = ((((d.n.toNat / 3 : Nat) : Int), makeL (planData (Q (d.n.toNat / 3)) d) (d.n.toNat / 3)), 0) := by
  obtain ⟨⟨n0, n1⟩, _⟩ := wrong_ok hr
  have e := has_dat (h.has (d.n.toNat / 3) (by omega)) (by omega)
  rw [plan_had hr (by rw [e]), e]
theorem good_do {a : Arr} {Q : Nat → List Bs} (h : Good a Q) {d : Deed} (hr : wrongI d = 0) : Good (putA a (((d.n.toNat / 3 : Nat) : Int), makeL (planData (Q (d.n.toNat / 3)) d) (d.n.toNat / 3))) (doQ Q d) ∧ (Calm a → Calm (putA a (((d.n.toNat / 3 : Nat) : Int), makeL (planData (Q (d.n.toNat / 3)) d) (d.n.toNat / 3)))) := by
  obtain ⟨⟨n0, n1⟩, _⟩ := wrong_ok hr
  have hs : d.n.toNat / 3 < 3 := by omega
  have H := h.has _ hs
  obtain ⟨p1, p2, p3⟩ := plan_zero hr H.dlen H.blk
  obtain ⟨g1, g2, g3⟩ := good_put h hs p1 p2 p3
  refine ⟨?_, fun hc s hs' => ?_⟩
  · have e : doQ Q d = fun t => if t = d.n.toNat / 3 then planData (Q (d.n.toNat / 3)) d else Q t := by
      funext t
      unfold doQ
      split
      · rename_i ht; rw [ht]
      · rfl
    rw [e]
    exact g1
  · by_cases hts : s = d.n.toNat / 3
    · rw [hts, g2]; decide
    · rw [g3 s hts]; exact hc s hs'
/-! ### harm -/
theorem turn_ne (c : UInt8) : c ≠ c ^^^ 1 := by
  intro h
  have : c ^^^ (c ^^^ 1) = c ^^^ c := by rw [← h]
  rw [← UInt8.xor_assoc, UInt8.xor_self, UInt8.zero_xor] at this
  exact absurd this (by decide)
theorem rot_no_ {a : Arr} {d s n : Int} (h : thereB d s = false ∨ n < 0 ∨ ((cellAt a.disks d.toNat s.toNat).length : Int) ≤ n) : rotA a d s n = (a, 6) := by unfold rotA; rw [if_pos h]
/-- A byte rots, or nothing does. -/
theorem rot_cases (a : Arr) (d s n : Int) : rotA a d s n = (a, 6) ∨ ∃ d' s' n' : Nat, d = d' ∧ s = s' ∧ n = n' ∧ d' < 4 ∧ s' < 3 ∧ n' < (cellAt a.disks d' s').length ∧ rotA a d s n = (⟨setA a.disks d' s' ((cellAt a.disks d' s').set n' ((cellAt a.disks d' s').getD n' 0 ^^^ 1)), a.ints⟩, 0) := by
  by_cases h : thereB d s = false ∨ n < 0 ∨ ((cellAt a.disks d.toNat s.toNat).length : Int) ≤ n
  · exact .inl (rot_no_ h)
  · right
    simp only [not_or, Bool.not_eq_false] at h
    obtain ⟨h1, h2, h3⟩ := h
    obtain ⟨t1, t2, t3, t4⟩ := thereB_iff.1 h1
    refine ⟨d.toNat, s.toNat, n.toNat, by omega, by omega, by omega, by omega, by omega, by omega, ?_⟩
    unfold rotA
    rw [if_neg]
    simp only [not_or, Bool.not_eq_false]
    exact ⟨h1, h2, h3⟩
/-- A cell that is there, of which a byte is turned, is none. -/
theorem rot_bad {b : Bs} {d s n : Nat} (h : (readC b d s).2 = 0) (hn : n < b.length) : (readC (b.set n (b.getD n 0 ^^^ 1)) d s).2 ≠ 0 := by
  obtain ⟨h1, h2, h3, h4⟩ := readC_ok (x := (readC b d s).1) (by rw [← h])
  have hg : b.getD n 0 = b[n] := by simp [List.getD, List.getElem?_eq_getElem hn]
  rw [hg]
  obtain ⟨x, hx⟩ : ∃ x, (readC b d s).1 = x := ⟨_, rfl⟩
  rw [hx] at h1 h2
  subst h1
  rw [readC_set d s hn (turn_ne _)]
  decide
theorem set_cells {D : List (List Bs)} (h : Shape D) {d s : Nat} (hd : d < 4) (hs : s < 3) (b : Bs) (hb : b.length ≤ 8) {t : Nat} (ht : t ≠ s) : cellsA (setA D d s b) t = cellsA D t :=
  cells_ext (shape_setA h d s hb).1 h.1 fun d' _ => by rw [cellAt_set h hd hs, if_neg (fun e => ht e.2)]
theorem set_okC {D : List (List Bs)} (h : Shape D) {d s : Nat} (hd : d < 4) (hs : s < 3) (b : Bs) (e : Nat) : okC (cellsA (setA D d s b) s) s e = if e = d then ((readC b d s).2 == 0) else okC (cellsA D s) s e := by
  unfold okC
  rw [cellsA_get, cellsA_get, cellAt_set h hd hs]
  by_cases he : e = d
  · subst he; simp
  · rw [if_neg (fun x => he x.1), if_neg he]
/-- A cell that becomes none keeps what a stripe has. -/
theorem has_worse {D : List (List Bs)} {Q : List Bs} (h : Shape D) {d s : Nat} (hd : d < 4) (hs : s < 3) {b : Bs} (hb : b.length ≤ 8) (hbad : (readC b d s).2 ≠ 0) (H : Has (cellsA D s) s Q) : Has (cellsA (setA D d s b) s) s Q := by
  refine ⟨by rw [cellsA_len, setA_len, h.1], H.dlen, H.blk, H.zero, fun e he hok => ?_⟩
  rw [set_okC h hd hs] at hok
  by_cases hed : e = d
  · rw [if_pos hed] at hok
    exact absurd (by simpa using hok) hbad
  · rw [if_neg hed] at hok
    have := H.ok e he hok
    rw [cellsA_get] at this ⊢
    rw [cellAt_set h hd hs, if_neg (fun x => hed x.1)]
    exact this
theorem good_set {a : Arr} {Q : Nat → List Bs} (h : Good a Q) {d s : Nat} (hd : d < 4) (hs : s < 3) {b : Bs} (hb : b.length ≤ 8) (hbad : (readC b d s).2 ≠ 0) : Good ⟨setA a.disks d s b, a.ints⟩ Q :=
  ⟨shape_setA h.shape d s hb, h.none_, fun t ht => by
    by_cases hts : t = s
    · subst hts; exact has_worse h.shape hd hs hb hbad (h.has t ht)
    · show Has (cellsA (setA a.disks d s b) t) t (Q t)
      rw [set_cells h.shape hd hs b hb hts]; exact h.has t ht⟩
theorem cell_le {D : List (List Bs)} (h : Shape D) {d s : Nat} (hd : d < 4) (hs : s < 3) : (cellAt D d s).length ≤ 8 := by
  obtain ⟨_, _, _, _, h8⟩ := h.cell hd hs; exact h8
theorem good_rot {a : Arr} {Q : Nat → List Bs} (h : Good a Q) {d s n : Int} (hok : ∀ d' s' : Nat, d = d' → s = s' → d' < 4 → s' < 3 → (readC (cellAt a.disks d' s') d' s').2 = 0) : Good (rotA a d s n).1 Q := by
  rcases rot_cases a d s n with e | ⟨d', s', n', rfl, rfl, rfl, hd, hs, hn, e⟩
  · rw [e]; exact h
  · rw [e]
    exact good_set h hd hs (by rw [List.length_set]; exact cell_le h.shape hd hs) (rot_bad (hok d' s' rfl rfl hd hs) hn)
theorem gone_cell {D : List (List Bs)} (h : Shape D) {d : Nat} (hd : d < 4) (e s : Nat) (hs : s < 3) : cellAt (D.set d [[], [], []]) e s = if e = d then [] else cellAt D e s := by
  unfold cellAt
  have hl : d < D.length := by rw [h.1]; exact hd
  by_cases he : e = d
  · subst he
    rw [if_pos rfl]
    simp only [List.getD, List.getElem?_set_self hl, Option.getD_some]
    match s, hs with
    | 0, _ => rfl
    | 1, _ => rfl
    | 2, _ => rfl
  · rw [if_neg he]
    simp [List.getD, List.getElem?_set_ne (Ne.symm he)]
theorem gone_shape {D : List (List Bs)} (h : Shape D) (d : Nat) : Shape (D.set d [[], [], []]) := by
  refine ⟨by rw [List.length_set]; exact h.1, fun r hr => ?_⟩
  rcases List.mem_or_eq_of_mem_set hr with hr | rfl
  · exact h.2 r hr
  · exact ⟨rfl, by simp⟩
theorem readC_nil (d s : Int) : readC [] d s = ([], 7) := by unfold readC; simp
theorem gone_okC {D : List (List Bs)} (h : Shape D) {d : Nat} (hd : d < 4) {s : Nat} (hs : s < 3) (e : Nat) : okC (cellsA (D.set d [[], [], []]) s) s e = if e = d then false else okC (cellsA D s) s e := by
  unfold okC
  rw [cellsA_get, cellsA_get, gone_cell h hd e s hs]
  by_cases he : e = d
  · rw [if_pos he, if_pos he, readC_nil]; rfl
  · rw [if_neg he, if_neg he]
theorem gone_cases (a : Arr) (d : Int) : goneA a d = (a, 6) ∨ ∃ d' : Nat, d = d' ∧ d' < 4 ∧ goneA a d = (⟨a.disks.set d' [[], [], []], a.ints⟩, 0) := by
  unfold goneA
  by_cases h : d < 0 ∨ 4 ≤ d
  · rw [if_pos h]; exact .inl rfl
  · rw [if_neg h]; exact .inr ⟨d.toNat, by omega, by omega, rfl⟩
theorem good_gone_ {a : Arr} {Q : Nat → List Bs} (h : Good a Q) {d : Nat} (hd : d < 4) : Good ⟨a.disks.set d [[], [], []], a.ints⟩ Q :=
  ⟨gone_shape h.shape d, h.none_, fun s hs => by
    have H := h.has s hs
    refine ⟨by rw [cellsA_len, List.length_set, h.shape.1], H.dlen, H.blk, H.zero, fun e he hok => ?_⟩
    rw [gone_okC h.shape hd hs] at hok
    by_cases hed : e = d
    · rw [if_pos hed] at hok; cases hok
    · rw [if_neg hed] at hok
      have := H.ok e he hok
      rw [cellsA_get] at this ⊢
      rw [gone_cell h.shape hd e s hs, if_neg hed]
      exact this⟩
theorem good_gone {a : Arr} {Q : Nat → List Bs} (h : Good a Q) (d : Int) : Good (goneA a d).1 Q := by
  rcases gone_cases a d with e | ⟨d', _, hd, e⟩
  · rw [e]; exact h
  · rw [e]; exact good_gone_ h hd
/-! ### mending -/
theorem mend_out {a : Arr} {s : Int} (h : s < 0 ∨ 3 ≤ s) : mendA a s = (a, 0, 3) := by unfold mendA; rw [if_pos h]
theorem mend_lost {a : Arr} {s : Nat} (hs : s < 3) (h : (dataL (cellsA a.disks s) s).2 ≠ 0) : mendA a (s : Nat) = (a, (((badL (cellsA a.disks s) s).length : Nat) : Int), (dataL (cellsA a.disks s) s).2) := by
  unfold mendA
  rw [if_neg (by omega)]
  simp only [Int.toNat_natCast]
  rw [if_pos h]
theorem mend_had {a : Arr} {s : Nat} (hs : s < 3) (h : (dataL (cellsA a.disks s) s).2 = 0) : mendA a (s : Nat) = (⟨putTo a.disks s (makeL (dataL (cellsA a.disks s) s).1 s) 4, a.ints⟩, (((badL (cellsA a.disks s) s).length : Nat) : Int), 0) := by
  unfold mendA
  rw [if_neg (by omega)]
  simp only [Int.toNat_natCast]
  rw [if_neg (by simpa using h)]
theorem good_mended {a : Arr} {Q : Nat → List Bs} (h : Good a Q) {s : Nat} (hs : s < 3) (hc : (badL (cellsA a.disks s) s).length ≤ 1) : mendA a (s : Nat) = (putA a ((s : Int), makeL (Q s) s), (((badL (cellsA a.disks s) s).length : Nat) : Int), 0) := by
  have e := has_dat (h.has s hs) (by omega)
  rw [mend_had hs (by rw [e]), e]
  simp [putA, h.none_]
theorem good_mend {a : Arr} {Q : Nat → List Bs} (h : Good a Q) (s : Int) : Good (mendA a s).1 Q := by
  by_cases hs : s < 0 ∨ 3 ≤ s
  · rw [mend_out hs]; exact h
  · obtain ⟨s, rfl⟩ := Int.eq_ofNat_of_zero_le (show 0 ≤ s by omega)
    have hs3 : s < 3 := by omega
    by_cases hd : (dataL (cellsA a.disks s) s).2 = 0
    · have hb := (data_blocks hd).2.2
      rw [good_mended h hs3 (by omega)]
      have H := h.has s hs3
      have g := (good_put h hs3 H.dlen H.blk H.zero).1
      have e : (fun t => if t = s then Q s else Q t) = Q := by
        funext t
        by_cases ht : t = s
        · rw [if_pos ht, ht]
        · rw [if_neg ht]
      rw [e] at g
      exact g
    · rw [mend_lost hs3 hd]; exact h
/-! ### a step -/
theorem good_new : Good newA (fun _ => List.replicate 4 zero4) ∧ Calm newA := by
  have hz : xorAll (List.replicate 4 zero4) = zero4 := by decide
  have h4 : Blocks4 (List.replicate 4 zero4) := fun b hb => by rw [List.eq_of_mem_replicate hb]; rfl
  have hm : ∀ s, s < 3 → cellsA newD s = makeL (List.replicate 4 zero4) s := by
    intro s hs
    match s, hs with
    | 0, _ => rfl
    | 1, _ => rfl
    | 2, _ => rfl
  have hsh : Shape newD := by
    refine ⟨rfl, fun r hr => ?_⟩
    unfold newD at hr
    simp only [List.mem_map, List.mem_range] at hr
    obtain ⟨d, _, rfl⟩ := hr
    refine ⟨by simp, fun c hc => ?_⟩
    simp only [List.mem_map, List.mem_range] at hc
    obtain ⟨s, _, rfl⟩ := hc
    rw [cellB_length]
    decide
  refine ⟨⟨hsh, rfl, fun s hs => ?_⟩, fun s hs => ?_⟩
  · show Has (cellsA newD s) s _
    rw [hm s hs]; exact (has_make rfl h4 hz hs).1
  · show (badL (cellsA newD s) s).length ≤ 1
    rw [hm s hs, (has_make rfl h4 hz hs).2]; decide
/-- Behind a step, of what is well: what may be there. -/
theorem good_step {k : Int → Nat} (hk : k = cellsP ∨ k = cellsR) {a : Arr} {Q : Nat → List Bs} (h : Good a Q) (hc : Calm a) {s : Step} (hg : againA a s = false) : ∃ Q', Good (stepK k a s).1 Q' ∧ blocksQ Q' ∈ listsA (blocksQ Q) s := by
  have hQ : ∀ s, s < 3 → (Q s).length = 4 := fun s hs => (h.has s hs).dlen
  have hself : s.kind ≠ 1 → s.kind ≠ 2 → blocksQ Q ∈ listsA (blocksQ Q) s := fun h1 h2 => by
    unfold listsA
    by_cases hw : wrongI s.deed ≠ 0
    · rw [if_pos hw]; simp
    · rw [if_neg hw, if_neg h1, if_neg h2]; simp
  unfold stepK
  by_cases h1 : s.kind = 1
  · rw [if_pos h1]
    unfold doA
    by_cases hw : wrongI s.deed = 0
    · obtain ⟨⟨n0, n1⟩, _⟩ := wrong_ok hw
      rw [good_plan h hw (hc _ (by omega))]
      rw [if_neg (by simp), write6P]
      refine ⟨_, (good_do h hw).1, ?_⟩
      unfold listsA
      rw [if_neg (by simpa using hw), if_pos h1, doQ_blocks hw hQ]
      simp
    · rw [plan_wrong hw, if_pos hw]
      refine ⟨Q, h, ?_⟩
      unfold listsA
      rw [if_pos hw]
      simp
  · rw [if_neg h1]
    by_cases h2 : s.kind = 2
    · rw [if_pos h2]
      by_cases hw : wrongI s.deed = 0
      · obtain ⟨⟨n0, n1⟩, _⟩ := wrong_ok hw
        have hn3 : s.deed.n.toNat / 3 < 3 := by omega
        have H := h.has _ hn3
        obtain ⟨p1, p2, p3⟩ := plan_zero hw H.dlen H.blk
        rw [good_plan h hw (hc _ hn3)]
        rw [if_neg (by simp)]
        rcases mount_half hk h.shape h.none_ (i := (((s.deed.n.toNat / 3 : Nat) : Int), makeL (planData (Q (s.deed.n.toNat / 3)) s.deed) (s.deed.n.toNat / 3))) (by simp; omega) (make_lens p2 _) s.n with e | e
        · refine ⟨Q, by simp only [e]; exact h, ?_⟩
          unfold listsA
          rw [if_neg (by simpa using hw), if_neg h1, if_pos h2]
          simp
        · refine ⟨_, by simp only [e]; exact (good_do h hw).1, ?_⟩
          unfold listsA
          rw [if_neg (by simpa using hw), if_neg h1, if_pos h2, doQ_blocks hw hQ]
          simp
      · rw [plan_wrong hw, if_pos hw]
        refine ⟨Q, h, ?_⟩
        unfold listsA
        rw [if_pos hw]
        simp
    · rw [if_neg h2]
      by_cases h3 : s.kind = 3
      · rw [if_pos h3]
        split
        · exact ⟨Q, h, hself h1 h2⟩
        · rename_i hn
          refine ⟨Q, good_rot h fun d' s' e1 e2 hd hs => ?_, hself h1 h2⟩
          unfold againA at hg
          have g1 : (s.kind == 3) = true := by simpa using h3
          have g2 : s.n ≤ 11 := by omega
          have e1' : s.n.toNat / 3 = d' := by omega
          have e2' : s.n.toNat % 3 = s' := by omega
          have g0 : 0 ≤ s.n := by omega
          simp only [g1, g0, g2, decide_true, Bool.true_and, Bool.not_eq_false', beq_iff_eq] at hg
          rw [e1', e2', e1, e2] at hg
          exact hg
      · rw [if_neg h3]
        by_cases h4 : s.kind = 4
        · rw [if_pos h4]; exact ⟨Q, good_gone h _, hself h1 h2⟩
        · rw [if_neg h4]
          by_cases h5 : s.kind = 5
          · rw [if_pos h5]; exact ⟨Q, good_mend h _, hself h1 h2⟩
          · rw [if_neg h5]; exact ⟨Q, h, hself h1 h2⟩
/-- As long as they are played gently. -/
theorem good_gently (n : Nat) (a : Arr) (l : List Step) {Q : Nat → List Bs} (h : Good a Q) (hc : Calm a) : ∃ Q', Good (gently n a l) Q' ∧ Calm (gently n a l) := by
  induction n generalizing a l Q with
  | zero => exact ⟨Q, by unfold gently; exact h, by unfold gently; exact hc⟩
  | succ n ih =>
    cases l with
    | nil => exact ⟨Q, by unfold gently; exact h, by unfold gently; exact hc⟩
    | cons s l =>
      unfold gently
      split
      · exact ⟨Q, h, hc⟩
      · rename_i hg
        simp only [Bool.or_eq_true, decide_eq_true_eq, not_or, Bool.not_eq_true] at hg
        obtain ⟨Q', h', _⟩ := good_step (.inr rfl) h hc hg.1
        exact ih _ _ h' (calm_iff.1 (by have := hg.2; unfold stepR at this; omega))
theorem good_gentlyA (l : List Step) : ∃ Q, Good (gentlyA l) Q ∧ Calm (gentlyA l) := good_gently 100 newA l good_new.1 good_new.2
end Go.Proofs.Ytlbnkoahkfhimaa.M

/- Chapter 6: a deed's text, and a text's deed, in plain Lean: written and read again. No program in sight. -/
import Derived.Test.YtdcmbdghnkgghaaDoorT3
namespace Go.Proofs.YtdcmbdghnkgghaaDoor
set_option linter.unusedVariables false
open Go Go.RowKit M
/-- The pieces between blanks. -/
def cut : List UInt8 → List (List UInt8)
  | [] => [[]]
  | c :: r => if c = 32 then [] :: cut r else (c :: (cut r).headD []) :: (cut r).tail
theorem index_one (c : UInt8) (r : List UInt8) : Lib.index (c :: r) [32] = if c = 32 then 0 else if Lib.index r [32] = -1 then -1 else Lib.index r [32] + 1 := by
  show (if ([32] : List UInt8).isPrefixOf (c :: r) then (0 : Int) else if Lib.index r [32] == -1 then -1 else Lib.index r [32] + 1) = _
  by_cases h : c = 32
  · subst h
    rw [if_pos rfl, if_pos (by simp)]
  · rw [if_neg h, if_neg (by simpa using fun e => h e.symm)]
    by_cases hi : Lib.index r [32] = -1
    · rw [if_pos hi, if_pos (by simpa using hi)]
    · rw [if_neg hi, if_neg (by simpa using hi)]
theorem index_ge (r : List UInt8) : -1 ≤ Lib.index r [32] := Lib.index_ge r [32]
theorem index_none (l : List UInt8) (h : Lib.index l [32] = -1) : Lib.count l [32] = 0 ∧ cut l = [l] := by
  induction l with
  | nil => exact ⟨rfl, rfl⟩
  | cons c r ih =>
    rw [index_one] at h
    by_cases hc : c = 32
    · rw [if_pos hc] at h; omega
    · rw [if_neg hc] at h
      by_cases hi : Lib.index r [32] = -1
      · obtain ⟨h1, h2⟩ := ih hi
        refine ⟨(Lib.count_cons_ne c 32 r hc).trans h1, ?_⟩
        unfold cut
        rw [if_neg hc, h2]
        rfl
      · rw [if_neg hi] at h
        have := index_ge r
        omega
theorem cut_ne (l : List UInt8) : ∃ p ps, cut l = p :: ps := by
  cases l with
  | nil => exact ⟨[], [], rfl⟩
  | cons c r =>
    unfold cut
    by_cases hc : c = 32
    · rw [if_pos hc]; exact ⟨_, _, rfl⟩
    · rw [if_neg hc]; exact ⟨_, _, rfl⟩
theorem splitK_cut (l : List UInt8) : Lib.splitK [32] 0 (Lib.count l [32]) l = cut l := by
  induction l with
  | nil => rfl
  | cons c r ih =>
    by_cases hc : c = 32
    · subst hc
      rw [Lib.count_cons_eq, Nat.add_comm]
      show (if Lib.index (32 :: r) [32] == -1 then _ else _) = _
      rw [index_one, if_pos rfl]
      show [] :: Lib.splitK [32] 0 (Lib.count r [32]) r = _
      rw [ih]
      rfl
    · rw [Lib.count_cons_ne c 32 r hc]
      have hcut : cut (c :: r) = (c :: (cut r).headD []) :: (cut r).tail := by
        show (if c = 32 then _ else _) = _
        rw [if_neg hc]
      rw [hcut, ← ih]
      cases hk : Lib.count r [32] with
      | zero => rfl
      | succ k =>
        show (if Lib.index (c :: r) [32] == -1 then _ else _) = (c :: (if Lib.index r [32] == -1 then _ else _ : List (List UInt8)).headD []) :: (if Lib.index r [32] == -1 then _ else _ : List (List UInt8)).tail
        rw [index_one, if_neg hc]
        by_cases hi : Lib.index r [32] = -1
        · have := (index_none r hi).1
          omega
        · have h0 := index_ge r
          obtain ⟨i, hi2⟩ : ∃ i : Nat, Lib.index r [32] = i := ⟨(Lib.index r [32]).toNat, by omega⟩
          rw [hi2, if_neg (show ¬ ((i : Int) = -1) by omega), if_neg (show ¬ (((i : Int) + 1 == -1) = true) by simp <;> omega), if_neg (show ¬ (((i : Int) == -1) = true) by simp <;> omega)]
          have e1 : ((i : Int) + 1).toNat = i + 1 := by omega
          have e2 : ((i : Int)).toNat = i := by omega
          rw [e1, e2]
          simp only [List.length_cons, List.length_nil, Nat.add_zero, List.take_succ_cons, List.headD_cons, List.tail_cons]
          rw [show i + 1 + (0 + 1) = (i + (0 + 1)) + 1 by omega, List.drop_succ_cons]
theorem parseP_cut (l : List UInt8) : parseP l = pieceP (cut l) := by unfold parseP; rw [splitK_cut]
theorem cut_free {a : List UInt8} (h : ∀ c ∈ a, c ≠ 32) : cut a = [a] := by
  induction a with
  | nil => rfl
  | cons c r ih =>
    unfold cut
    rw [if_neg (h c (by simp)), ih fun x hx => h x (by simp [hx])]
    rfl
theorem cut_app {a : List UInt8} (h : ∀ c ∈ a, c ≠ 32) (r : List UInt8) : cut (a ++ 32 :: r) = a :: cut r := by
  induction a with
  | nil => show (if (32 : UInt8) = 32 then _ else _) = _; rw [if_pos rfl]
  | cons c a ih =>
    rw [show cut ((c :: a) ++ 32 :: r) = (c :: (cut (a ++ 32 :: r)).headD []) :: (cut (a ++ 32 :: r)).tail from if_neg (h c (by simp)), ih fun x hx => h x (by simp [hx])]
    rfl
/-- The pieces, joined again. -/
def joinP : List (List UInt8) → List UInt8
  | [] => []
  | [p] => p
  | p :: ps => p ++ 32 :: joinP ps
theorem join_cut (l : List UInt8) : joinP (cut l) = l := by
  induction l with
  | nil => rfl
  | cons c r ih =>
    obtain ⟨p, ps, h⟩ := cut_ne r
    by_cases hc : c = 32
    · subst hc
      show joinP (if (32 : UInt8) = 32 then _ else _) = _
      rw [if_pos rfl, h, ← ih, h]
      rfl
    · show joinP (if c = 32 then _ else _) = _
      rw [if_neg hc, h]
      rw [h] at ih
      rw [← ih]
      cases ps <;> rfl
def hexC (n : Nat) : UInt8 := hexs.getD n 0
def hexOut : List UInt8 → List UInt8
  | [] => []
  | c :: r => hexC (c.toNat / 16) :: hexC (c.toNat % 16) :: hexOut r
/-- A deed's text. -/
def printP (d : Deed) : List UInt8 := if d.kind = 2 then wordS ++ 32 :: (Lib.itoa d.n ++ 32 :: Lib.itoa d.m) else wordW ++ 32 :: (Lib.itoa d.n ++ 32 :: hexOut d.data)
theorem hexC_all : ∀ n : Fin 16, hexA (hexC n.val) = n.val ∧ hexC n.val ≠ 32 := by decide +kernel
theorem hexA_inv : ∀ n : Fin 256, 0 ≤ hexA (UInt8.ofNat n.val) → hexC (hexA (UInt8.ofNat n.val)).toNat = UInt8.ofNat n.val ∧ hexA (UInt8.ofNat n.val) < 16 := by decide +kernel
theorem hexA_back (c : UInt8) (h : 0 ≤ hexA c) : hexC (hexA c).toNat = c ∧ hexA c < 16 := by
  have := hexA_inv ⟨c.toNat, c.toNat_lt⟩
  simp only [UInt8.ofNat_toNat] at this
  exact this h
theorem hexC_at {n : Nat} (h : n < 16) : hexA (hexC n) = n ∧ hexC n ≠ 32 := hexC_all ⟨n, h⟩
theorem hexP_out (b : List UInt8) : hexP (hexOut b) = (b, true) := by
  induction b with
  | nil => rfl
  | cons c r ih =>
    have hc := c.toNat_lt
    have h1 := (hexC_at (show c.toNat / 16 < 16 by omega)).1
    have h2 := (hexC_at (show c.toNat % 16 < 16 by omega)).1
    unfold hexOut hexP
    rw [if_pos (by rw [h1, h2]; omega), ih]
    have hb : hexB (hexC (c.toNat / 16)) (hexC (c.toNat % 16)) = c := by
      unfold hexB
      rw [h1, h2]
      have e : (16 * max ((c.toNat / 16 : Nat) : Int) 0 + max ((c.toNat % 16 : Nat) : Int) 0).toNat = c.toNat := by omega
      rw [e, UInt8.ofNat_toNat]
    rw [hb]
theorem hexOut_in : ∀ (l : List UInt8), (hexP l).2 = true → l.length % 2 = 0 → hexOut (hexP l).1 = l
  | [], _, _ => rfl
  | [c], _, h => by simp at h
  | c :: d :: r, h, hl => by
    unfold hexP at h ⊢
    by_cases hp : 0 ≤ hexA c ∧ 0 ≤ hexA d
    · rw [if_pos hp] at h ⊢
      have ih := hexOut_in r h (by simp at hl; omega)
      obtain ⟨a1, a2⟩ := hexA_back c hp.1
      obtain ⟨b1, b2⟩ := hexA_back d hp.2
      have e : (hexB c d).toNat = 16 * (hexA c).toNat + (hexA d).toNat := by
        unfold hexB
        rw [UInt8.toNat_ofNat']
        omega
      unfold hexOut
      rw [e, ih, show (16 * (hexA c).toNat + (hexA d).toNat) / 16 = (hexA c).toNat by omega, show (16 * (hexA c).toNat + (hexA d).toNat) % 16 = (hexA d).toNat by omega, a1, b1]
    · rw [if_neg hp] at h
      cases h
theorem hexOut_free (b : List UInt8) : ∀ c ∈ hexOut b, c ≠ 32 := by
  induction b with
  | nil => intro c h; cases h
  | cons x r ih =>
    have hx := x.toNat_lt
    intro c h
    unfold hexOut at h
    simp only [List.mem_cons] at h
    rcases h with h | h | h
    · rw [h]; exact (hexC_at (by omega)).2
    · rw [h]; exact (hexC_at (by omega)).2
    · exact ih c h
theorem hexOut_len (b : List UInt8) : (hexOut b).length = 2 * b.length := by
  induction b with
  | nil => rfl
  | cons x r ih => unfold hexOut; simp only [List.length_cons, ih]; omega
theorem itoa_all : ∀ n : Fin 9, numP (Lib.itoa n.val) = ((n.val : Int), true) ∧ (∀ c ∈ Lib.itoa n.val, c ≠ 32) ∧ Lib.itoa n.val = Lib.decDigits n.val := by decide +kernel
theorem itoa_in {n : Int} (h : 0 ≤ n ∧ n < 9) : numP (Lib.itoa n) = (n, true) ∧ (∀ c ∈ Lib.itoa n, c ≠ 32) := by
  obtain ⟨k, rfl⟩ : ∃ k : Nat, n = k := ⟨n.toNat, by omega⟩
  have := itoa_all ⟨k, by omega⟩
  exact ⟨this.1, this.2.1⟩
theorem num_back {l : List UInt8} (h : (numP l).2 = true) : Lib.itoa (numP l).1 = l := by
  unfold numP at h ⊢
  cases ha : Lib.atoiAll l <;> rw [ha] at h
  · simpa using h
  · cases h
  · cases h
theorem words_free : (∀ c ∈ wordW, c ≠ 32) ∧ (∀ c ∈ wordS, c ≠ 32) ∧ kindP wordW = 1 ∧ kindP wordS = 2 := by decide
theorem kind_word {a : List UInt8} : (kindP a = 1 → a = wordW) ∧ (kindP a = 2 → a = wordS) := by
  unfold kindP
  constructor
  · intro h
    split at h
    · assumption
    · split at h <;> cases h
  · intro h
    split at h
    · cases h
    · split at h
      · assumption
      · cases h
/-- Written, and read again. -/
theorem parse_print {d : Deed} (hr : wrongI d = 0) : parseP (printP d) = (d, 0) := by
  obtain ⟨hn, hq⟩ := wrong_ok hr
  obtain ⟨n1, n2⟩ := itoa_in hn
  rw [parseP_cut]
  unfold printP
  rcases hq with ⟨hk, hm, _⟩ | ⟨hk, hm, _, hd⟩
  · rw [if_neg (by omega), cut_app words_free.1, cut_app n2, cut_free (hexOut_free _), piece_write words_free.2.2.1 (by rw [n1]) (by rw [hexOut_len]; omega), n1, hexP_out]
    have e : (⟨1, d.n, 0, d.data⟩ : Deed) = d := by cases d; simp_all
    unfold endP
    rw [if_neg (by simp), e, if_neg (by simpa using hr)]
  · obtain ⟨m1, m2⟩ := itoa_in hm
    rw [if_pos hk, cut_app words_free.2.1, cut_app n2, cut_free m2, piece_swap words_free.2.2.2, n1, m1]
    have e : (⟨2, d.n, d.m, []⟩ : Deed) = d := by cases d; simp_all
    unfold endP
    rw [if_neg (by simp), e, if_neg (by simpa using hr)]
theorem end_ok {d x : Deed} {ok : Bool} (h : endP d ok = (x, 0)) : ok = true ∧ wrongI d = 0 ∧ x = d := by
  unfold endP at h
  split at h
  · cases h
  · rename_i h1
    split at h
    · rename_i h2
      injection h with _ h3
      exact absurd h3 h2
    · rename_i h2
      injection h with h3
      exact ⟨by simpa using h1, by simpa using h2, h3.symm⟩
/-- Read, and written again. -/
theorem print_parse {l : List UInt8} {x : Deed} (h : parseP l = (x, 0)) : printP x = l ∧ wrongI x = 0 := by
  rw [parseP_cut] at h
  have hj := join_cut l
  by_cases h0 : kindP ((cut l).getD 0 []) = 0
  · rw [piece_none h0] at h
    cases h
  by_cases h3 : (cut l).length = 3
  rotate_left
  · rw [piece_form h0 h3] at h
    cases h
  match hc : cut l, h3 with
  | [a, b, c], _ =>
    rw [hc] at h h0 hj
    rcases kind_cases a with hk | hk | hk
    · exact absurd hk h0
    · by_cases hq : (numP b).2 = false ∨ c.length % 2 ≠ 0
      · rw [piece_odd hk hq] at h
        cases h
      · have hb : (numP b).2 = true := by
          cases hv : (numP b).2
          · exact absurd (.inl hv) hq
          · rfl
        have h2 : c.length % 2 = 0 := by
          by_cases hv : c.length % 2 = 0
          · exact hv
          · exact absurd (.inr hv) hq
        rw [piece_write hk hb h2] at h
        obtain ⟨e1, e2, rfl⟩ := end_ok h
        refine ⟨?_, e2⟩
        unfold printP
        rw [if_neg (show ¬ ((1 : Int) = 2) by decide), ← hj, num_back hb, hexOut_in c e1 h2, kind_word.1 hk]
        rfl
    · rw [piece_swap hk] at h
      obtain ⟨e1, e2, rfl⟩ := end_ok h
      have e1' : (numP b).2 = true ∧ (numP c).2 = true := by simpa using e1
      refine ⟨?_, e2⟩
      unfold printP
      rw [if_pos rfl, ← hj, num_back e1'.1, num_back e1'.2, kind_word.2 hk]
      rfl
end Go.Proofs.YtdcmbdghnkgghaaDoor

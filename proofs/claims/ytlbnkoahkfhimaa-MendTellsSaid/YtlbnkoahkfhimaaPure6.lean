/- Blocks behind deeds: twice, apart. No program in sight. -/
import Derived.Test.YtlbnkoahkfhimaaPure5
namespace Go.Proofs.Ytlbnkoahkfhimaa.M
set_option linter.unusedVariables false
theorem ext9 {a b : List Bs} (ha : a.length = 9) (hb : b.length = 9) (h : ∀ i, i < 9 → a.getD i [] = b.getD i []) : a = b := by
  apply List.ext_getElem (by omega)
  intro i h1 h2
  have := h i (by omega)
  simpa [List.getD, List.getElem?_eq_getElem h1, List.getElem?_eq_getElem h2] using this
theorem doD_get2 {l : List Bs} {d : Deed} (hr : wrongI d = 0) (hk : d.kind = 2) (hl : l.length = 9) (i : Nat) (hi : i < 9) :
    (doD l d).getD i [] = if (i : Int) = d.n then l.getD d.m.toNat [] else if (i : Int) = d.m then l.getD d.n.toNat [] else l.getD i [] := by
  rw [doD_get l d hr hl i hi, if_neg (by omega)]
  simp only [hk, true_and]
theorem doD_swap2 {l : List Bs} {d : Deed} (hr : wrongI d = 0) (hk : d.kind = 2) (hl : l.length = 9) : doD (doD l d) d = l := by
  obtain ⟨⟨n0, n1⟩, hq⟩ := wrong_ok hr
  obtain ⟨m0, m1⟩ : InB d.m := by omega
  have hl1 : (doD l d).length = 9 := by rw [doD_length, hl]
  refine ext9 (by rw [doD_length, hl1]) hl fun i hi => ?_
  have en : ((d.n.toNat : Nat) : Int) = d.n := by omega
  have em : ((d.m.toNat : Nat) : Int) = d.m := by omega
  have gn := doD_get2 hr hk hl d.n.toNat (by omega)
  have gm := doD_get2 hr hk hl d.m.toNat (by omega)
  have gi := doD_get2 hr hk hl i hi
  rw [doD_get2 hr hk hl1 i hi]
  rw [en] at gn
  rw [em] at gm
  by_cases h1 : (i : Int) = d.n
  · have hi' : d.n.toNat = i := by omega
    rw [if_pos h1, gm]
    by_cases h2 : d.m = d.n
    · rw [if_pos h2, h2, hi']
    · rw [if_neg h2, if_pos rfl, hi']
  · rw [if_neg h1]
    by_cases h2 : (i : Int) = d.m
    · have hi' : d.m.toNat = i := by omega
      rw [if_pos h2, gn, if_pos rfl, hi']
    · rw [if_neg h2, gi, if_neg h1, if_neg h2]
theorem doD_write2 {l : List Bs} {d : Deed} (hk : d.kind = 1) : doD (doD l d) d = doD l d := by
  unfold doD
  simp [hk]
theorem doD_write_at {l : List Bs} {d : Deed} (hr : wrongI d = 0) (hk : d.kind = 1) (hl : l.length = 9) : (doD l d)[d.n.toNat]? = some d.data := by
  obtain ⟨⟨n0, n1⟩, _⟩ := wrong_ok hr
  unfold doD
  rw [if_pos hk, List.getElem?_set_self (by omega)]
/-- A block that a deed names. -/
def namesB (d : Deed) (n : Nat) : Bool := (n : Int) == d.n || d.kind == 2 && (n : Int) == d.m
theorem doD_other {l : List Bs} {d : Deed} (hr : wrongI d = 0) (hl : l.length = 9) {i : Nat} (hi : i < 9) (hn : namesB d i = false) : (doD l d).getD i [] = l.getD i [] := by
  unfold namesB at hn
  simp only [Bool.or_eq_false_iff, beq_eq_false_iff_ne, Bool.and_eq_false_iff, ne_eq] at hn
  obtain ⟨h1, h2⟩ := hn
  rw [doD_get l d hr hl i hi, if_neg (by intro e; exact h1 e.2), if_neg (by intro e; exact h1 e.2), if_neg (by intro e; rcases h2 with h | h; exact h e.1; exact h e.2)]
theorem doD_named {l l' : List Bs} {d : Deed} (hr : wrongI d = 0) (hl : l.length = 9) (hl' : l'.length = 9) {i : Nat} (hi : i < 9) (hn : namesB d i = true) (h : ∀ j, j < 9 → namesB d j = true → l.getD j [] = l'.getD j []) : (doD l d).getD i [] = (doD l' d).getD i [] := by
  obtain ⟨⟨n0, n1⟩, hq⟩ := wrong_ok hr
  rw [doD_get l d hr hl i hi, doD_get l' d hr hl' i hi]
  rcases hq with ⟨hk, _⟩ | ⟨hk, ⟨m0, m1⟩, _⟩
  · have h1 : (i : Int) = d.n := by
      unfold namesB at hn
      simp only [Bool.or_eq_true, beq_iff_eq, Bool.and_eq_true] at hn
      rcases hn with h | h
      · exact h
      · omega
    rw [if_pos ⟨hk, h1⟩, if_pos ⟨hk, h1⟩]
  · have e1 : l.getD d.n.toNat [] = l'.getD d.n.toNat [] := h _ (by omega) (by unfold namesB; simp; left; omega)
    have e2 : l.getD d.m.toNat [] = l'.getD d.m.toNat [] := h _ (by omega) (by unfold namesB; simp [hk]; right; omega)
    have e3 := h i hi hn
    rw [e1, e2, e3]
/-- Two deeds that name no block in common come to the same, whichever is first. -/
theorem doD_apart {l : List Bs} {a b : Deed} (ha : wrongI a = 0) (hb : wrongI b = 0) (hl : l.length = 9) (h : ∀ n, n < 9 → (namesB a n && namesB b n) = false) : doD (doD l a) b = doD (doD l b) a := by
  have la : (doD l a).length = 9 := by rw [doD_length, hl]
  have lb : (doD l b).length = 9 := by rw [doD_length, hl]
  refine ext9 (by rw [doD_length, la]) (by rw [doD_length, lb]) fun i hi => ?_
  have hn := h i hi
  cases ea : namesB a i with
  | true =>
    rw [ea] at hn
    simp at hn
    rw [doD_other hb la hi hn]
    refine doD_named ha hl lb hi ea fun j hj hja => ?_
    have hnj := h j hj
    rw [hja] at hnj
    simp at hnj
    rw [doD_other hb hl hj hnj]
  | false =>
    rw [doD_other ha lb hi ea]
    cases eb : namesB b i with
    | true =>
      refine doD_named hb la hl hi eb fun j hj hjb => ?_
      have hnj := h j hj
      rw [hjb] at hnj
      simp at hnj
      rw [doD_other ha hl hj hnj]
    | false =>
      rw [doD_other hb la hi eb, doD_other hb hl hi eb, doD_other ha hl hi ea]
end Go.Proofs.Ytlbnkoahkfhimaa.M

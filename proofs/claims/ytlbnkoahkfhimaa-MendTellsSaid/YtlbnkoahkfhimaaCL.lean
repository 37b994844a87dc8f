/- slices.Clone, slices.Equal, slices.EqualFunc of Go's library, at bytes and at lists of bytes: what they compute. -/
import Derived.Test.YtlbnkoahkfhimaaBase
import Derived.Test.YtlbnkoahkfhimaaRegion
import Derived.Lib.SliceRun
namespace Go.Proofs.Ytlbnkoahkfhimaa
set_option linter.unusedVariables false
open Go Go.RowKit M

set_option maxHeartbeats 400000 in
theorem clone_B (b : Bs) (v : Value) (F : Fp) (w : World) (h : RdB w F v b) (hb : b.length ≤ 1000) :
    Calls Try.prog 56 #[v] w fun e w' => ∃ v', e = .returned v' ∧ Bld R8 5 w' w.heap.size (fun _ => True) v' b ∧ Below w.heap.size w w' := by
  obtain ⟨A, c, rfl, _, _⟩ := h.shape
  have q : ∀ (w : World) (a : Option Addr) (n c n' c' : Nat), (binOp .eql 23 (.slice a n c) (.slice none n' c')).run Try.prog w = .ok (.bool a.isNone) w := fun w a n c n' c' => Lib.run_eql_slice_nil w _ _ a n c n' c' Try.underlying23
  cases A with
  | none =>
    have hn : b = [] := by
      rcases Nat.eq_zero_or_pos b.length with h0 | h0
      · exact List.eq_nil_of_length_eq_zero h0
      · obtain ⟨_, _, _, hA, _⟩ := h.at_ h0; cases hA
    subst hn
    go_enter Try.func56, Try.ntmps56
    go_wp2
    go_ret
    exact ⟨_, rfl, Bld.nil_ _ _ _ _ _, Below.refl _ _⟩
  | some a =>
    have hE := Bld.empty R8 5 w w.heap.size (fun _ => True) (Nat.le_refl _)
    have hsrc := (okB.old h (below_alloc w (.cells #[] 5)) (G := fun k => some k ≠ (Value.slice (some ⟨w.heap.size, 0, none⟩) 0 0).ownBlock ∧ True) fun k _ hk => ⟨by simp only [Value.ownBlock, ne_eq, Option.some.injEq]; omega, trivial⟩)
    have HB := Lib.hid hb
    clear h hb
    go_enter Try.func56, Try.ntmps56
    go_wp2_with (at_builtin; refine wpList_append_bld _ rfl _ _ 23 rfl ok8 slB w.heap.size (fun _ => True) _ _ [] b rfl rfl hE hsrc ?c1 ?c2 ?c3)
    case c1 => have := HB.out; simp; omega
    case c2 => exact (below_alloc w _).size
    case c3 =>
      intro v' w' hBld hBelow _ _
      go_wp2
      go_ret
      exact ⟨_, rfl, by simpa using hBld, (below_alloc w _).trans hBelow⟩
set_option maxHeartbeats 400000 in
theorem clone_BB_old (l : List Bs) (v : Value) (F : Fp) (w : World) (h : RdBB w F v l) (hb : l.length ≤ 1000) :
    Calls Try.prog 55 #[v] w fun e w' => ∃ v', e = .returned v' ∧ Bld RdB 23 w' w.heap.size (fun k => k < w.heap.size) v' l ∧ Below w.heap.size w w' := by
  obtain ⟨A, c, rfl, _, _⟩ := h.shape
  have q : ∀ (w : World) (a : Option Addr) (n c n' c' : Nat), (binOp .eql 22 (.slice a n c) (.slice none n' c')).run Try.prog w = .ok (.bool a.isNone) w := fun w a n c n' c' => Lib.run_eql_slice_nil w _ _ a n c n' c' Try.underlying22
  cases A with
  | none =>
    have hn : l = [] := by
      rcases Nat.eq_zero_or_pos l.length with h0 | h0
      · exact List.eq_nil_of_length_eq_zero h0
      · obtain ⟨_, _, _, hA, _⟩ := h.at_ h0; cases hA
    subst hn
    go_enter Try.func55, Try.ntmps55
    go_wp2
    go_ret
    exact ⟨_, rfl, Bld.nil_ _ _ _ _ _, Below.refl _ _⟩
  | some a =>
    have hE := Bld.empty RdB 23 w w.heap.size (fun k => k < w.heap.size) (Nat.le_refl _)
    have hsrc := (okBB.old h (below_alloc w (.cells #[] 23)) (G := fun k => some k ≠ (Value.slice (some ⟨w.heap.size, 0, none⟩) 0 0).ownBlock ∧ k < w.heap.size) fun k _ hk => ⟨by simp only [Value.ownBlock, ne_eq, Option.some.injEq]; omega, hk⟩)
    have HB := Lib.hid hb
    clear h hb
    go_enter Try.func55, Try.ntmps55
    go_wp2_with (at_builtin; refine wpList_append_bld _ rfl _ _ 22 rfl okB slBB w.heap.size (fun k => k < w.heap.size) _ _ [] l rfl rfl hE hsrc ?c1 ?c2 ?c3)
    case c1 => have := HB.out; simp; omega
    case c2 => exact (below_alloc w _).size
    case c3 =>
      intro v' w' hBld hBelow _ _
      go_wp2
      go_ret
      exact ⟨_, rfl, by simpa using hBld, (below_alloc w _).trans hBelow⟩
theorem clone_BB (l : List Bs) (v : Value) (F : Fp) (w : World) (h : RdBB w F v l) (hb : l.length ≤ 1000) :
    Calls Try.prog 55 #[v] w fun e w' => ∃ v', e = .returned v' ∧ Bld RdB 23 w' w.heap.size (fun _ => True) v' l ∧ Below w.heap.size w w' :=
  (clone_BB_old l v F w h hb).mono fun _ _ ⟨v', h1, h2, h3⟩ => ⟨v', h1, h2.mono okB fun _ _ _ => trivial, h3⟩
set_option maxHeartbeats 400000 in
theorem equal_B (a b : Bs) (va vb : Value) (F : Fp) (w : World) (ha : RdB w F va a) (hb : RdB w F vb b) :
    Calls Try.prog 54 #[va, vb] w fun e w' => e = .returned (.bool (a == b)) ∧ Below w.heap.size w w' := by
  obtain ⟨A, ca, rfl, _, hm⟩ := ha.shape
  obtain ⟨B, cb, rfl, _, _⟩ := hb.shape
  by_cases hl : a.length = b.length
  · have hlb : ((a.length : Int) == (b.length : Int)) = true := by rw [hl]; exact beq_self_eq_true _
    have HL := Lib.hid hl
    rw [← hl] at hb ⊢
    clear hl hlb
    unfold maxLen at hm
    go_enter Try.func54, Try.ntmps54
    go_wp2
    go_loopw [13] (fun i wr => ∃ k : Nat, k ≤ a.length ∧ i = .int .i64 k ∧ (∀ j, j < k → at8 a j = at8 b j) ∧ Below w.heap.size w wr) (fun i _ => a.length - (intOf i).toNat)
    case atStart => exact ⟨0, Nat.zero_le _, rfl, fun j hj => by omega, Below.refl _ _⟩
    case round =>
      obtain ⟨k, hk, rfl, hpre, hlw⟩ := hrel
      have HP := Lib.hid hpre
      clear hpre
      by_cases hlt : k < a.length
      · obtain ⟨ba, oa, u, rfl, _, hu, hR⟩ := (okB.grow ha hlw).at_ (k := k) hlt
        cases hR
        have hltb : k < b.length := by rw [← HL.out]; exact hlt
        obtain ⟨bb, ob, u2, rfl, _, hu2, hR⟩ := (okB.grow hb hlw).at_ (k := k) hltb
        cases hR
        unfold B8 at hu hu2
        rw [← at8_get hlt] at hu
        rw [← at8_get hltb] at hu2
        by_cases he : at8 a k = at8 b k
        · have HE := Lib.hid he
          rw [← he] at hu2
          clear he ha hb hltb
          go_wp2
          go_region
          go_wp2
          go_roundw
          case rel => exact ⟨k + 1, by omega, by go_num, fun j hj => by rcases Nat.lt_succ_iff_lt_or_eq.1 hj with h | rfl; exact HP.out j h; exact HE.out, hlw.drew⟩
          case measure => simp [intOf]; omega
        · have heb : (at8 a k == at8 b k) = false := beq_false_of_ne he
          have hne : (a == b) = false := beq_false_of_ne fun e => he (by rw [e])
          have HN := Lib.hid hne
          clear he ha hb hltb hne
          go_wp2
          go_region
          go_wp2
          go_ret
          exact ⟨ret_bool HN.out.symm, hlw.drew⟩
      · go_wp2
        obtain rfl : k = a.length := by omega
        go_ret
        refine ⟨ret_bool ?_, hlw⟩
        have : a = b := at8_ext HL.out HP.out
        subst this
        simp
  · have hlb : (a.length == b.length) = false := beq_false_of_ne hl
    have hne : (a == b) = false := beq_false_of_ne fun e => hl (by rw [e])
    have hli : ((a.length : Int) == (b.length : Int)) = false := beq_false_of_ne fun e => hl (by omega)
    rw [hne]
    clear hl hne hlb ha hb
    go_enter Try.func54, Try.ntmps54
    go_wp2
    go_ret
    exact ⟨rfl, Below.refl _ _⟩
theorem take_all {α : Type} {a b : List α} (hl : a.length = b.length) (h : ∀ j, j < a.length → a[j]? = b[j]?) : a = b := by
  apply List.ext_getElem? 
  intro j
  by_cases hj : j < a.length
  · exact h j hj
  · rw [List.getElem?_eq_none (by omega), List.getElem?_eq_none (by omega)]
set_option maxHeartbeats 400000 in
theorem equalFunc_BB (a b : List Bs) (va vb : Value) (F : Fp) (w : World) (ha : RdBB w F va a) (hb : RdBB w F vb b) :
    Calls Try.prog 53 #[va, vb, .func (.func 54) #[] #[]] w fun e w' => e = .returned (.bool (a == b)) ∧ Below w.heap.size w w' := by
  obtain ⟨A, ca, rfl, _, hm⟩ := ha.shape
  obtain ⟨B, cb, rfl, _, _⟩ := hb.shape
  by_cases hl : a.length = b.length
  · have HL := Lib.hid hl
    rw [← hl] at hb ⊢
    clear hl
    unfold maxLen at hm
    go_enter Try.func53, Try.ntmps53
    go_wp2
    go_loopw [17] (fun i wr => ∃ k : Nat, k ≤ a.length ∧ i = .int .i64 k ∧ (∀ j, j < k → a[j]? = b[j]?) ∧ Below w.heap.size w wr) (fun i _ => a.length - (intOf i).toNat)
    case atStart => exact ⟨0, Nat.zero_le _, rfl, fun j hj => by omega, Below.refl _ _⟩
    case round =>
      obtain ⟨k, hk, rfl, hpre, hlw⟩ := hrel
      have HP := Lib.hid hpre
      clear hpre
      by_cases hlt : k < a.length
      · obtain ⟨ba, oa, u, rfl, _, hu, hR⟩ := (okBB.grow ha hlw).at_ (k := k) hlt
        have hltb : k < b.length := by rw [← HL.out]; exact hlt
        obtain ⟨bb, ob, u2, rfl, _, hu2, hR2⟩ := (okBB.grow hb hlw).at_ (k := k) hltb
        have hcall := Lib.hid fun w' (h : Below wr.heap.size wr w') => equal_B a[k] b[k] u u2 F w' (okB.grow hR h) (okB.grow hR2 h)
        clear hR hR2 ha hb
        by_cases he : a[k] = b[k]
        · rw [he] at hcall
          simp only [beq_self_eq_true] at hcall
          have HE := Lib.hid he
          have hsz := Lib.hid hlw.size
          clear he
          go_wp2_with (go_at_call 54; refine (hcall.out _ (Below.refl _ _)).mono ?_; rintro e w' ⟨rfl, hb'⟩)
          have hl2 := hlw.trans (hb'.mono hsz.out)
          go_roundw
          case rel => exact ⟨k + 1, by omega, by go_num, fun j hj => by rcases Nat.lt_succ_iff_lt_or_eq.1 hj with h | rfl; exact HP.out j h; rw [List.getElem?_eq_getElem hlt, List.getElem?_eq_getElem hltb, HE.out], hl2⟩
          case measure => simp [intOf]; omega
        · rw [beq_false_of_ne he] at hcall
          have HN := Lib.hid (show (a == b) = false from beq_false_of_ne fun e => he (by subst e; rfl))
          have hsz := Lib.hid hlw.size
          clear he
          go_wp2_with (go_at_call 54; refine (hcall.out _ (Below.refl _ _)).mono ?_; rintro e w' ⟨rfl, hb'⟩)
          go_ret
          exact ⟨ret_bool HN.out.symm, hlw.trans (hb'.mono hsz.out)⟩
      · go_wp2
        obtain rfl : k = a.length := by omega
        go_ret
        refine ⟨ret_bool ?_, hlw⟩
        have : a = b := take_all HL.out HP.out
        subst this
        simp
  · have hne : (a == b) = false := beq_false_of_ne fun e => hl (by rw [e])
    have hli : ((a.length : Int) == (b.length : Int)) = false := beq_false_of_ne fun e => hl (by omega)
    rw [hne]
    clear hl hne ha hb
    go_enter Try.func53, Try.ntmps53
    go_wp2
    go_ret
    exact ⟨rfl, Below.refl _ _⟩
theorem model_Same (a b : List Bs) (va vb : Value) (F : Fp) (w : World) (ha : RdBB w F va a) (hb : RdBB w F vb b) :
    Calls Try.prog 21 #[va, vb] w fun e w' => e = .returned (.bool (a == b)) ∧ Below w.heap.size w w' := by
  have H := Lib.hid (equalFunc_BB a b va vb F w ha hb)
  obtain ⟨A, ca, rfl, _, _⟩ := ha.shape
  obtain ⟨B, cb, rfl, _, _⟩ := hb.shape
  clear ha hb
  go_enter Try.func21, Try.ntmps21
  go_wp2_with (go_at_call 53; refine H.out.mono ?_; rintro e w' ⟨rfl, hb'⟩)
  go_ret
  exact ⟨rfl, hb'⟩
end Go.Proofs.Ytlbnkoahkfhimaa

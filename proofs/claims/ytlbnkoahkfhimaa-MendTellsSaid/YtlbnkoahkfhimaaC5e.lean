/- Chapter 5: what the reference's Do computes. -/
import Derived.Test.YtlbnkoahkfhimaaC5d
import Derived.Test.YtlbnkoahkfhimaaMem3
namespace Go.Proofs.Ytlbnkoahkfhimaa
set_option linter.unusedVariables false
open Go Go.RowKit M
theorem doD_len (l : List Bs) (d : Deed) (hl : l.length = 9) : (doD l d).length = 9 := by rw [doD_length, hl]
/-- The element that is appended, and why. -/
theorem doD_el (l : List Bs) (d : Deed) (hr : wrongI d = 0) (hl : l.length = 9) (k : Nat) (hk : k < 9) : ∃ x, (doD l d).take k ++ [x] = (doD l d).take (k + 1) ∧
    ((d.kind = 1 ∧ (k : Int) = d.n ∧ x = d.data) ∨ (d.kind = 1 ∧ (k : Int) ≠ d.n ∧ l[k]? = some x) ∨ (d.kind = 2 ∧ (k : Int) = d.n ∧ ∃ m : Nat, m < 9 ∧ d.m = m ∧ l[m]? = some x) ∨
      (d.kind = 2 ∧ (k : Int) ≠ d.n ∧ (k : Int) = d.m ∧ ∃ n : Nat, n < 9 ∧ d.n = n ∧ l[n]? = some x) ∨ (d.kind = 2 ∧ (k : Int) ≠ d.n ∧ (k : Int) ≠ d.m ∧ l[k]? = some x)) := by
  have hg := doD_get l d hr hl k hk
  obtain ⟨⟨n0, n1⟩, hq⟩ := wrong_ok hr
  have hlen := doD_len l d hl
  refine ⟨(doD l d).getD k [], ?_, ?_⟩
  · rw [List.take_succ_eq_append_getElem (by omega)]
    simp [List.getD, List.getElem?_eq_getElem (show k < (doD l d).length by omega)]
  · rw [hg]
    rcases hq with ⟨hk1, _⟩ | ⟨hk2, ⟨m0, m1⟩, _⟩
    · by_cases h : (k : Int) = d.n
      · left; exact ⟨hk1, h, by rw [if_pos ⟨hk1, h⟩]⟩
      · right; left
        refine ⟨hk1, h, ?_⟩
        rw [if_neg (by intro e; exact h e.2), if_neg (by intro e; omega), if_neg (by intro e; omega)]
        simp [List.getD, List.getElem?_eq_getElem (show k < l.length by omega)]
    · by_cases h : (k : Int) = d.n
      · right; right; left
        refine ⟨hk2, h, d.m.toNat, by omega, by omega, ?_⟩
        rw [if_neg (by intro e; omega), if_pos ⟨hk2, h⟩]
        simp [List.getD, List.getElem?_eq_getElem (show d.m.toNat < l.length by omega)]
      · by_cases h' : (k : Int) = d.m
        · right; right; right; left
          refine ⟨hk2, h, h', d.n.toNat, by omega, by omega, ?_⟩
          rw [if_neg (by intro e; omega), if_neg (by intro e; exact h e.2), if_pos ⟨hk2, h'⟩]
          simp [List.getD, List.getElem?_eq_getElem (show d.n.toNat < l.length by omega)]
        · right; right; right; right
          refine ⟨hk2, h, h', ?_⟩
          rw [if_neg (by intro e; omega), if_neg (by intro e; exact h e.2), if_neg (by intro e; exact h' e.2)]
          simp [List.getD, List.getElem?_eq_getElem (show k < l.length by omega)]
set_option maxRecDepth 100000 in
set_option maxHeartbeats 800000 in
theorem ref_Do (l : List Bs) (d : Deed) (v vd : Value) (F : Fp) (w : World) (h : RdBB w F v l) (hd : RdD w F vd d) (hl : l.length = 9) (hr : wrongI d = 0) :
    Calls Try.prog 23 #[v, vd] w fun e w' => ∃ v', e = .returned v' ∧ Bld RdB 23 w' w.heap.size (fun _ => True) v' (doD l d) ∧ Below w.heap.size w w' := by
  have hel := Lib.hid (doD_el l d hr hl)
  obtain ⟨dv, rfl, hdv⟩ := hd
  obtain ⟨Ad, cd, rfl, _, _⟩ := hdv.shape
  obtain ⟨b0, o0, c, rfl, _, _, _, _⟩ := h.form (by omega)
  have hnew := Lib.hid (boxed4_new w (.int .i64 d.kind) (.int .i64 d.n) (.int .i64 d.m) (.slice Ad d.data.length cd) 25)
  have hnb := Lib.hid (below_alloc w (.cells #[.int .i64 d.kind, .int .i64 d.n, .int .i64 d.m, .slice Ad d.data.length cd] 25))
  have hsz := Lib.hid (alloc_size w (.cells #[.int .i64 d.kind, .int .i64 d.n, .int .i64 d.m, .slice Ad d.data.length cd] 25))
  have HL := Lib.hid hl
  have HD := Lib.hid (doD_len l d hl)
  rw [hl] at h ⊢
  have H := Lib.hid (okBB.lt h)
  have Hd := Lib.hid (okB.lt hdv)
  clear hr hl h hdv
  go_enter Try.func23, Try.ntmps23
  go_wp2_with fail
  generalize w.alloc (.cells #[.int .i64 d.kind, .int .i64 d.n, .int .i64 d.m, .slice Ad d.data.length cd] 25) = w1 at *
  go_loopw [5, 10] (fun u i wr => ∃ k : Nat, k ≤ 9 ∧ i = .int .i64 k ∧ Bld RdB 23 wr (w.heap.size + 1) (fun _ => True) u ((doD l d).take k) ∧ Below (w.heap.size + 1) w1 wr) (fun _ i _ => 9 - (intOf i).toNat)
  case atStart => exact ⟨0, Nat.zero_le _, rfl, Bld.nil_ _ _ _ _ _, Below.refl _ _⟩
  case round =>
    obtain ⟨k, hk, rfl, hO, hlw⟩ := hrel
    have HLW := Lib.hid (hnb.out.trans (hlw.mono (Nat.le_succ _)))
    have hx := hnew.out.keep hlw (Nat.lt_succ_self _)
    by_cases hlt : k < 9
    · have HW := Lib.hid (show w.heap.size + 1 ≤ wr.heap.size by have := hlw.size; have := hsz.out; omega)
      have HLw := Lib.hid hlw
      obtain ⟨x, hxk, hcase⟩ := hel.out k hlt
      have HX := Lib.hid hxk
      have HO := Lib.hid hO
      have HT := Lib.hid (show ((doD l d).take k).length = k by rw [List.length_take, HD.out]; omega)
      have hR := okBB.grow H.out HLW.out
      have hRd := okB.grow Hd.out HLW.out
      obtain ⟨k0, k1, k2, k3, _⟩ := id hx
      have HR := Lib.hid hR
      have HRd := Lib.hid hRd
      clear hR hlw hO hx hxk hRd
      obtain ⟨uk, huk, hRk⟩ := RdL_q HR.out (List.getElem?_eq_getElem (show k < l.length by rw [HL.out]; exact hlt))
      obtain ⟨Ak, ck, rfl, _, _⟩ := hRk.shape
      have hold : ∀ (u : Value) (y : Bs), RdB wr (fun k => F k ∧ k < w.heap.size) u y → RdB wr (fun k => some k ≠ u5.ownBlock) u y := fun u y hu => okB.mono hu fun k hk e => by have := (HO.out.blk k e.symm).1; omega
      have HH := Lib.hid hold
      have HT' := Lib.hid (show (((doD l d).take k).length + 1) * 24 ≤ 140737488355328 by rw [HT.out]; omega)
      clear hold
      rcases hcase with ⟨h1, h2, rfl⟩ | ⟨h1, h2, h3⟩ | ⟨h1, h2, m, hm9, hm, h3⟩ | ⟨h1, h2, h4, m, hm9, hm, h3⟩ | ⟨h1, h2, h4, h3⟩
      · have e1 : (d.kind == 1) = true := by simpa using h1
        have e2 : ((k : Int) == d.n) = true := by simpa using h2
        clear h1 h2
        go_wp2_with (at_builtin; refine wpList_append_one rfl _ _ 22 rfl okB slBB (w.heap.size + 1) _ _ d.data _ rfl rfl rfl HO.out (HH.out _ _ HRd.out) HT'.out HW.out ?c1)
        case c1 =>
        intro v' w' hB hb
        rw [HX.out] at hB
        go_wp2
        go_roundw
        case rel => exact ⟨k + 1, by omega, by go_num, hB, HLw.out.trans hb⟩
        case measure => simp [intOf]; omega
      · have e1 : (d.kind == 1) = true := by simpa using h1
        have e2 : ((k : Int) == d.n) = false := by simpa using h2
        clear h1 h2
        have hkl : k < l.length := by rw [HL.out]; exact hlt
        obtain rfl : l[k] = x := by rw [List.getElem?_eq_getElem hkl] at h3; injection h3
        have HRk := Lib.hid hRk
        clear hRk h3
        go_wp2_with (at_builtin; refine wpList_append_one rfl _ _ 22 rfl okB slBB (w.heap.size + 1) _ _ _ _ rfl rfl rfl HO.out (HH.out _ _ HRk.out) HT'.out HW.out ?c1)
        case c1 =>
        intro v' w' hB hb
        rw [HX.out] at hB
        go_wp2
        go_roundw
        case rel => exact ⟨k + 1, by omega, by go_num, hB, HLw.out.trans hb⟩
        case measure => simp [intOf]; omega
      · have e1 : (d.kind == 1) = false := by rw [h1]; rfl
        have e3 : (d.kind == 2) = true := by simpa using h1
        have e2 : ((k : Int) == d.n) = true := by simpa using h2
        obtain ⟨u, hu, hRu⟩ := RdL_q HR.out h3
        obtain ⟨Au, cu, rfl, _, _⟩ := hRu.shape
        have HU := Lib.hid hRu
        have q0 : 0 ≤ d.m := by omega
        have q1 : d.m < 9 := by omega
        have q2 : d.m.toNat = m := by omega
        clear h1 h2 h3 hm hRu hRk
        go_wp2_with (at_builtin; refine wpList_append_one rfl _ _ 22 rfl okB slBB (w.heap.size + 1) _ _ x _ rfl rfl rfl HO.out (HH.out _ _ HU.out) HT'.out HW.out ?c1)
        case c1 =>
        intro v' w' hB hb
        rw [HX.out] at hB
        go_wp2
        go_roundw
        case rel => exact ⟨k + 1, by omega, by go_num, hB, HLw.out.trans hb⟩
        case measure => simp [intOf]; omega
      · have e1 : (d.kind == 1) = false := by rw [h1]; rfl
        have e3 : (d.kind == 2) = true := by simpa using h1
        have e2 : ((k : Int) == d.n) = false := by simpa using h2
        have e4 : ((k : Int) == d.m) = true := by simpa using h4
        obtain ⟨u, hu, hRu⟩ := RdL_q HR.out h3
        obtain ⟨Au, cu, rfl, _, _⟩ := hRu.shape
        have HU := Lib.hid hRu
        have q0 : 0 ≤ d.n := by omega
        have q1 : d.n < 9 := by omega
        have q2 : d.n.toNat = m := by omega
        clear h1 h2 h3 h4 hm hRu hRk
        go_wp2_with (at_builtin; refine wpList_append_one rfl _ _ 22 rfl okB slBB (w.heap.size + 1) _ _ x _ rfl rfl rfl HO.out (HH.out _ _ HU.out) HT'.out HW.out ?c1)
        case c1 =>
        intro v' w' hB hb
        rw [HX.out] at hB
        go_wp2
        go_roundw
        case rel => exact ⟨k + 1, by omega, by go_num, hB, HLw.out.trans hb⟩
        case measure => simp [intOf]; omega
      · have e1 : (d.kind == 1) = false := by rw [h1]; rfl
        have e3 : (d.kind == 2) = true := by simpa using h1
        have e2 : ((k : Int) == d.n) = false := by simpa using h2
        have e4 : ((k : Int) == d.m) = false := by simpa using h4
        clear h1 h2 h4
        have hkl : k < l.length := by rw [HL.out]; exact hlt
        obtain rfl : l[k] = x := by rw [List.getElem?_eq_getElem hkl] at h3; injection h3
        have HRk := Lib.hid hRk
        clear hRk h3
        go_wp2_with (at_builtin; refine wpList_append_one rfl _ _ 22 rfl okB slBB (w.heap.size + 1) _ _ _ _ rfl rfl rfl HO.out (HH.out _ _ HRk.out) HT'.out HW.out ?c1)
        case c1 =>
        intro v' w' hB hb
        rw [HX.out] at hB
        go_wp2
        go_roundw
        case rel => exact ⟨k + 1, by omega, by go_num, hB, HLw.out.trans hb⟩
        case measure => simp [intOf]; omega
    · go_wp2
      obtain rfl : k = 9 := by omega
      go_ret
      have hlen := HD.out
      rw [List.take_of_length_le (by omega)] at hO
      exact ⟨_, rfl, hO.base_ (Nat.le_succ _), HLW.out⟩
end Go.Proofs.Ytlbnkoahkfhimaa

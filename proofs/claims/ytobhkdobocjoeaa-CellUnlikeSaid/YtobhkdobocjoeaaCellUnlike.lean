/- Chapter 2: CellUnlike holds for every input: the call returns true, and each argument reads behind it as it read before. -/
import Derived.Test.YtobhkdobocjoeaaL2
import Derived.Test.YtobhkdobocjoeaaOpen
namespace Go.Proofs.Ytobhkdobocjoeaa
open Go Go.RowKit M

def sameB (d s o wh : Nat) (x y : Bs) : Bool := decide (d = o) && decide (s = wh) && (x == y)
theorem cell_same {d s o wh : Nat} {x y : Bs} (hd : d < 256) (hs : s < 256) (ho : o < 256) (hw : wh < 256) : (cellB d s x == cellB o wh y) = sameB d s o wh x y := by
  rw [Bool.eq_iff_iff]
  unfold sameB
  simp only [beq_iff_eq, Bool.and_eq_true, decide_eq_true_eq]
  constructor
  · intro h
    obtain ⟨h1, h2, h3⟩ := cellB_inj hd hs ho hw h
    exact ⟨⟨h1, h2⟩, h3⟩
  · rintro ⟨⟨rfl, rfl⟩, rfl⟩
    rfl
set_option maxHeartbeats 1600000 in
theorem cellUnlike_walk (d s : Int) (x : Bs) (vx : Value) (o wh : Int) (y : Bs) (vy : Value) (w : World) (_d0 : -9223372036854775808 ≤ d) (_d1 : d ≤ 9223372036854775807) (_s0 : -9223372036854775808 ≤ s) (_s1 : s ≤ 9223372036854775807) (hx : RdB w (fun _ => True) vx x)
    (_o0 : -9223372036854775808 ≤ o) (_o1 : o ≤ 9223372036854775807) (_w0 : -9223372036854775808 ≤ wh) (_w1 : wh ≤ 9223372036854775807) (hy : RdB w (fun _ => True) vy y) :
    Calls Try.prog 12 #[.int .i64 d, .int .i64 s, vx, .int .i64 o, .int .i64 wh, vy] w fun e w' => e = .returned (.bool true) ∧ Below w.heap.size w w' := by
  obtain ⟨Ax, cx, rfl, _, _⟩ := hx.shape
  obtain ⟨Ay, cy, rfl, _, _⟩ := hy.shape
  cases h1 : thereB d s with
  | false =>
    have H1 := Lib.hid h1
    clear h1
    go_enter Try.func12, Try.ntmps12
    go_wp2_with fail
    refine (law2_alive _).mono ?_
    rintro e w1 ⟨rfl, hl⟩
    go_wp2_with fail
    refine (cell_There d s _).mono ?_
    rintro e w2 ⟨rfl, rfl⟩
    rw [H1.out]
    go_wp2
    go_ret
    exact ⟨rfl, hl⟩
  | true =>
  cases h2 : thereB o wh with
  | false =>
    have H1 := Lib.hid h1
    have H2 := Lib.hid h2
    clear h1 h2
    go_enter Try.func12, Try.ntmps12
    go_wp2_with fail
    refine (law2_alive _).mono ?_
    rintro e w1 ⟨rfl, hl⟩
    go_wp2_with fail
    refine (cell_There d s _).mono ?_
    rintro e w2 ⟨rfl, rfl⟩
    rw [H1.out]
    go_wp2_with fail
    refine (cell_There o wh _).mono ?_
    rintro e w2 ⟨rfl, rfl⟩
    rw [H2.out]
    go_wp2
    go_ret
    exact ⟨rfl, hl⟩
  | true =>
  obtain ⟨q0, q1, q2, q3⟩ := thereB_iff.1 h1
  obtain ⟨p0, p1, p2, p3⟩ := thereB_iff.1 h2
  obtain ⟨d, rfl⟩ := Int.eq_ofNat_of_zero_le q0
  obtain ⟨s, rfl⟩ := Int.eq_ofNat_of_zero_le q2
  obtain ⟨o, rfl⟩ := Int.eq_ofNat_of_zero_le p0
  obtain ⟨wh, rfl⟩ := Int.eq_ofNat_of_zero_le p2
  have H1 := Lib.hid h1
  have H2 := Lib.hid h2
  clear h1 h2
  by_cases h4 : x.length = 4
  rotate_left
  · have h4' : ((x.length : Int) != 4) = true := by simp; omega
    clear h4
    go_enter Try.func12, Try.ntmps12
    go_wp2_with fail
    refine (law2_alive _).mono ?_
    rintro e w1 ⟨rfl, hl⟩
    go_wp2_with fail
    refine (cell_There d s _).mono ?_
    rintro e w2 ⟨rfl, rfl⟩
    rw [H1.out]
    go_wp2_with fail
    refine (cell_There o wh _).mono ?_
    rintro e w2 ⟨rfl, rfl⟩
    rw [H2.out]
    go_wp2
    go_ret
    exact ⟨rfl, hl⟩
  by_cases g4 : y.length = 4
  rotate_left
  · have g4' : ((y.length : Int) != 4) = true := by simp; omega
    rw [h4]
    clear h4 g4
    go_enter Try.func12, Try.ntmps12
    go_wp2_with fail
    refine (law2_alive _).mono ?_
    rintro e w1 ⟨rfl, hl⟩
    go_wp2_with fail
    refine (cell_There d s _).mono ?_
    rintro e w2 ⟨rfl, rfl⟩
    rw [H1.out]
    go_wp2_with fail
    refine (cell_There o wh _).mono ?_
    rintro e w2 ⟨rfl, rfl⟩
    rw [H2.out]
    go_wp2
    go_ret
    exact ⟨rfl, hl⟩
  rw [h4] at hx ⊢
  rw [g4] at hy ⊢
  have H4 := Lib.hid h4
  have G4 := Lib.hid g4
  have hcs := cell_same (d := d) (s := s) (o := o) (wh := wh) (x := x) (y := y) (by omega) (by omega) (by omega) (by omega)
  have HC := Lib.hid hcs
  clear h4 g4 hcs
  go_enter Try.func12, Try.ntmps12
  go_wp2_with fail
  refine (law2_alive _).mono ?_
  rintro e w1 ⟨rfl, hl⟩
  go_wp2_with fail
  refine (cell_There d s _).mono ?_
  rintro e w2 ⟨rfl, rfl⟩
  rw [H1.out]
  go_wp2_with fail
  refine (cell_There o wh _).mono ?_
  rintro e w2 ⟨rfl, rfl⟩
  rw [H2.out]
  replace hx := okB.grow hx hl
  replace hy := okB.grow hy hl
  have hcx := run_conv hx Try.underlying22 Try.underlying5 Try.underlying9
  have hcy := run_conv hy Try.underlying22 Try.underlying5 Try.underlying9
  by_cases e1 : d = o
  rotate_left
  · have b1 : ((d : Int) == (o : Int)) = false := by simp; omega
    have b1' : (d == o) = false := by simp; omega
    have hs : sameB d s o wh x y = false := by unfold sameB; simp [e1]
    have HS := Lib.hid hs
    clear e1 hs
    go_wp2_with fail
    refine region_list [Cv (.int .i64 d), Cv (.int .i64 s), Cv (.slice Ax 4 cx), Rv RdB (cellB d s x), Cv (.string (strB (cellB d s x))), Cv (.int .i64 o), Cv (.int .i64 wh), Cv (.slice Ay 4 cy), Rv RdB (cellB o wh y), Cv (.string (strB (cellB o wh y))), Cv (.bool (sameB d s o wh x y)), Cv (.bool (false)), Cv (.bool true), Cv (.bool true)] (by kernel_rfl) (by kernel_rfl) (by kernel_rfl) ?_ ?_ ?_
    · repeat (first | exact trivial | refine ⟨mC _, ?_⟩ | refine ⟨mR okB _, ?_⟩ | refine ⟨mT, ?_⟩ | refine ⟨mR okBB _, ?_⟩ | refine ⟨mR okBBB _, ?_⟩)
    · simp only [StepsL]
      refine ⟨?_, ?_, ?_, ?_, ?_, ?_, ?_, ?_, ?_, ?_, ?_, ?_, ?_, ?_, trivial⟩
      · intro ys wx hw hd K hK
        simp only [putL, Act.put, List.setIfInBounds_toArray, List.set_cons_zero, List.set_cons_succ, Nat.zero_add, Nat.reduceAdd] at hK ⊢
        rw [if_pos (by rfl)]
        go_simp
        exact hK _ _ (Below.refl _ _) rfl
      · intro ys wx hw hd K hK
        simp only [putL, Act.put, List.setIfInBounds_toArray, List.set_cons_zero, List.set_cons_succ, Nat.zero_add, Nat.reduceAdd] at hK ⊢
        rw [if_pos (by rfl)]
        go_simp
        exact hK _ _ (Below.refl _ _) rfl
      · intro ys wx hw hd K hK
        simp only [putL, Act.put, List.setIfInBounds_toArray, List.set_cons_zero, List.set_cons_succ, Nat.zero_add, Nat.reduceAdd] at hK ⊢
        rw [if_pos (by rfl)]
        go_simp
        exact hK _ _ (Below.refl _ _) rfl
      · intro ys wx hw hd K hK
        have e0 : ys 0 = _ := hd 0 (by decide)
        have e1 : ys 1 = _ := hd 1 (by decide)
        have e2 : ys 2 = _ := hd 2 (by decide)
        simp only [putL, Act.put, List.setIfInBounds_toArray, List.set_cons_zero, List.set_cons_succ, Nat.zero_add, Nat.reduceAdd, e0, e1, e2] at hK ⊢
        rw [if_pos (by rfl)]
        go_simp
        refine (cell_Bytes d s x _ _ _ (okB.grow hx hw) (by omega) (by omega) (by rw [H4.out]; decide)).mono ?_
        rintro e w' ⟨v', rfl, hv', hb'⟩
        exact hK _ _ hb' (hv'.toRd_ ok8)
      · intro ys wx hw hd K hK
        have k3 := hd 3 (by decide)
        change (Rv RdB (cellB d s x)) wx (ys 3) at k3
        simp only [putL, Act.put, List.setIfInBounds_toArray, List.set_cons_zero, List.set_cons_succ, Nat.zero_add, Nat.reduceAdd] at hK ⊢
        rw [if_pos (by rfl)]
        have hc := run_conv k3 Try.underlying22 Try.underlying5 Try.underlying9
        go_simp
        exact hK _ _ (Below.refl _ _) rfl
      · intro ys wx hw hd K hK
        simp only [putL, Act.put, List.setIfInBounds_toArray, List.set_cons_zero, List.set_cons_succ, Nat.zero_add, Nat.reduceAdd] at hK ⊢
        rw [if_pos (by rfl)]
        go_simp
        exact hK _ _ (Below.refl _ _) rfl
      · intro ys wx hw hd K hK
        simp only [putL, Act.put, List.setIfInBounds_toArray, List.set_cons_zero, List.set_cons_succ, Nat.zero_add, Nat.reduceAdd] at hK ⊢
        rw [if_pos (by rfl)]
        go_simp
        exact hK _ _ (Below.refl _ _) rfl
      · intro ys wx hw hd K hK
        simp only [putL, Act.put, List.setIfInBounds_toArray, List.set_cons_zero, List.set_cons_succ, Nat.zero_add, Nat.reduceAdd] at hK ⊢
        rw [if_pos (by rfl)]
        go_simp
        exact hK _ _ (Below.refl _ _) rfl
      · intro ys wx hw hd K hK
        have e5 : ys 5 = _ := hd 5 (by decide)
        have e6 : ys 6 = _ := hd 6 (by decide)
        have e7 : ys 7 = _ := hd 7 (by decide)
        simp only [putL, Act.put, List.setIfInBounds_toArray, List.set_cons_zero, List.set_cons_succ, Nat.zero_add, Nat.reduceAdd, e5, e6, e7] at hK ⊢
        rw [if_pos (by rfl)]
        go_simp
        refine (cell_Bytes o wh y _ _ _ (okB.grow hy hw) (by omega) (by omega) (by rw [G4.out]; decide)).mono ?_
        rintro e w' ⟨v', rfl, hv', hb'⟩
        exact hK _ _ hb' (hv'.toRd_ ok8)
      · intro ys wx hw hd K hK
        have k8 := hd 8 (by decide)
        change (Rv RdB (cellB o wh y)) wx (ys 8) at k8
        simp only [putL, Act.put, List.setIfInBounds_toArray, List.set_cons_zero, List.set_cons_succ, Nat.zero_add, Nat.reduceAdd] at hK ⊢
        rw [if_pos (by rfl)]
        have hc := run_conv k8 Try.underlying22 Try.underlying5 Try.underlying9
        go_simp
        exact hK _ _ (Below.refl _ _) rfl
      · intro ys wx hw hd K hK
        have e4 : ys 4 = _ := hd 4 (by decide)
        have e9 : ys 9 = _ := hd 9 (by decide)
        simp only [putL, Act.put, List.setIfInBounds_toArray, List.set_cons_zero, List.set_cons_succ, Nat.zero_add, Nat.reduceAdd, e4, e9] at hK ⊢
        rw [if_pos (by rfl)]
        go_simp
        exact hK _ _ (Below.refl _ _) (by simp only [strB_toList]; rw [HC.out]; rfl)
      · intro ys wx hw hd K hK
        simp only [putL, Act.put, List.setIfInBounds_toArray, List.set_cons_zero, List.set_cons_succ, Nat.zero_add, Nat.reduceAdd] at hK ⊢
        rw [if_pos (by rfl)]
        go_simp
        exact hK _ _ (Below.refl _ _) rfl
      · intro ys wx hw hd K hK
        have e10 : ys 10 = _ := hd 10 (by decide)
        have e11 : ys 11 = _ := hd 11 (by decide)
        simp only [putL, Act.put, List.setIfInBounds_toArray, List.set_cons_zero, List.set_cons_succ, Nat.zero_add, Nat.reduceAdd, e10, e11] at hK ⊢
        rw [if_pos (by rfl)]
        go_simp
        exact hK _ _ (Below.refl _ _) (by rw [HS.out]; rfl)
      · intro ys wx hw hd K hK
        have e12 : ys 12 = _ := hd 12 (by decide)
        simp only [putL, Act.put, List.setIfInBounds_toArray, List.set_cons_zero, List.set_cons_succ, Nat.zero_add, Nat.reduceAdd, e12] at hK ⊢
        rw [if_pos (by rfl)]
        go_simp
        exact hK _ _ (Below.refl _ _) rfl
    · intro ys w' hl' hV
      have e13 : ys 13 = _ := hV 13 (by decide)
      clear hV
      simp only [putL, Act.put, List.setIfInBounds_toArray, List.set_cons_zero, List.set_cons_succ, Nat.zero_add, Nat.reduceAdd, e13]
      clear e13
      go_wp2
      go_ret
      exact ⟨rfl, hl.trans (hl'.mono hl.size)⟩
  by_cases e2 : s = wh
  rotate_left
  · have b1 : ((d : Int) == (o : Int)) = true := by simp; omega
    have b1' : (d == o) = true := by simp; omega
    have b2 : ((s : Int) == (wh : Int)) = false := by simp; omega
    have b2' : (s == wh) = false := by simp; omega
    have hs : sameB d s o wh x y = false := by unfold sameB; simp [e2]
    have HS := Lib.hid hs
    clear e1 e2 hs
    go_wp2_with fail
    refine region_list [Cv (.int .i64 d), Cv (.int .i64 s), Cv (.slice Ax 4 cx), Rv RdB (cellB d s x), Cv (.string (strB (cellB d s x))), Cv (.int .i64 o), Cv (.int .i64 wh), Cv (.slice Ay 4 cy), Rv RdB (cellB o wh y), Cv (.string (strB (cellB o wh y))), Cv (.bool (sameB d s o wh x y)), Cv (.bool (false)), Cv (.bool true), Cv (.bool true)] (by kernel_rfl) (by kernel_rfl) (by kernel_rfl) ?_ ?_ ?_
    · repeat (first | exact trivial | refine ⟨mC _, ?_⟩ | refine ⟨mR okB _, ?_⟩ | refine ⟨mT, ?_⟩ | refine ⟨mR okBB _, ?_⟩ | refine ⟨mR okBBB _, ?_⟩)
    · simp only [StepsL]
      refine ⟨?_, ?_, ?_, ?_, ?_, ?_, ?_, ?_, ?_, ?_, ?_, ?_, ?_, ?_, trivial⟩
      · intro ys wx hw hd K hK
        simp only [putL, Act.put, List.setIfInBounds_toArray, List.set_cons_zero, List.set_cons_succ, Nat.zero_add, Nat.reduceAdd] at hK ⊢
        rw [if_pos (by rfl)]
        go_simp
        exact hK _ _ (Below.refl _ _) rfl
      · intro ys wx hw hd K hK
        simp only [putL, Act.put, List.setIfInBounds_toArray, List.set_cons_zero, List.set_cons_succ, Nat.zero_add, Nat.reduceAdd] at hK ⊢
        rw [if_pos (by rfl)]
        go_simp
        exact hK _ _ (Below.refl _ _) rfl
      · intro ys wx hw hd K hK
        simp only [putL, Act.put, List.setIfInBounds_toArray, List.set_cons_zero, List.set_cons_succ, Nat.zero_add, Nat.reduceAdd] at hK ⊢
        rw [if_pos (by rfl)]
        go_simp
        exact hK _ _ (Below.refl _ _) rfl
      · intro ys wx hw hd K hK
        have e0 : ys 0 = _ := hd 0 (by decide)
        have e1 : ys 1 = _ := hd 1 (by decide)
        have e2 : ys 2 = _ := hd 2 (by decide)
        simp only [putL, Act.put, List.setIfInBounds_toArray, List.set_cons_zero, List.set_cons_succ, Nat.zero_add, Nat.reduceAdd, e0, e1, e2] at hK ⊢
        rw [if_pos (by rfl)]
        go_simp
        refine (cell_Bytes d s x _ _ _ (okB.grow hx hw) (by omega) (by omega) (by rw [H4.out]; decide)).mono ?_
        rintro e w' ⟨v', rfl, hv', hb'⟩
        exact hK _ _ hb' (hv'.toRd_ ok8)
      · intro ys wx hw hd K hK
        have k3 := hd 3 (by decide)
        change (Rv RdB (cellB d s x)) wx (ys 3) at k3
        simp only [putL, Act.put, List.setIfInBounds_toArray, List.set_cons_zero, List.set_cons_succ, Nat.zero_add, Nat.reduceAdd] at hK ⊢
        rw [if_pos (by rfl)]
        have hc := run_conv k3 Try.underlying22 Try.underlying5 Try.underlying9
        go_simp
        exact hK _ _ (Below.refl _ _) rfl
      · intro ys wx hw hd K hK
        simp only [putL, Act.put, List.setIfInBounds_toArray, List.set_cons_zero, List.set_cons_succ, Nat.zero_add, Nat.reduceAdd] at hK ⊢
        rw [if_pos (by rfl)]
        go_simp
        exact hK _ _ (Below.refl _ _) rfl
      · intro ys wx hw hd K hK
        simp only [putL, Act.put, List.setIfInBounds_toArray, List.set_cons_zero, List.set_cons_succ, Nat.zero_add, Nat.reduceAdd] at hK ⊢
        rw [if_pos (by rfl)]
        go_simp
        exact hK _ _ (Below.refl _ _) rfl
      · intro ys wx hw hd K hK
        simp only [putL, Act.put, List.setIfInBounds_toArray, List.set_cons_zero, List.set_cons_succ, Nat.zero_add, Nat.reduceAdd] at hK ⊢
        rw [if_pos (by rfl)]
        go_simp
        exact hK _ _ (Below.refl _ _) rfl
      · intro ys wx hw hd K hK
        have e5 : ys 5 = _ := hd 5 (by decide)
        have e6 : ys 6 = _ := hd 6 (by decide)
        have e7 : ys 7 = _ := hd 7 (by decide)
        simp only [putL, Act.put, List.setIfInBounds_toArray, List.set_cons_zero, List.set_cons_succ, Nat.zero_add, Nat.reduceAdd, e5, e6, e7] at hK ⊢
        rw [if_pos (by rfl)]
        go_simp
        refine (cell_Bytes o wh y _ _ _ (okB.grow hy hw) (by omega) (by omega) (by rw [G4.out]; decide)).mono ?_
        rintro e w' ⟨v', rfl, hv', hb'⟩
        exact hK _ _ hb' (hv'.toRd_ ok8)
      · intro ys wx hw hd K hK
        have k8 := hd 8 (by decide)
        change (Rv RdB (cellB o wh y)) wx (ys 8) at k8
        simp only [putL, Act.put, List.setIfInBounds_toArray, List.set_cons_zero, List.set_cons_succ, Nat.zero_add, Nat.reduceAdd] at hK ⊢
        rw [if_pos (by rfl)]
        have hc := run_conv k8 Try.underlying22 Try.underlying5 Try.underlying9
        go_simp
        exact hK _ _ (Below.refl _ _) rfl
      · intro ys wx hw hd K hK
        have e4 : ys 4 = _ := hd 4 (by decide)
        have e9 : ys 9 = _ := hd 9 (by decide)
        simp only [putL, Act.put, List.setIfInBounds_toArray, List.set_cons_zero, List.set_cons_succ, Nat.zero_add, Nat.reduceAdd, e4, e9] at hK ⊢
        rw [if_pos (by rfl)]
        go_simp
        exact hK _ _ (Below.refl _ _) (by simp only [strB_toList]; rw [HC.out]; rfl)
      · intro ys wx hw hd K hK
        simp only [putL, Act.put, List.setIfInBounds_toArray, List.set_cons_zero, List.set_cons_succ, Nat.zero_add, Nat.reduceAdd] at hK ⊢
        rw [if_pos (by rfl)]
        go_simp
        exact hK _ _ (Below.refl _ _) rfl
      · intro ys wx hw hd K hK
        have e10 : ys 10 = _ := hd 10 (by decide)
        have e11 : ys 11 = _ := hd 11 (by decide)
        simp only [putL, Act.put, List.setIfInBounds_toArray, List.set_cons_zero, List.set_cons_succ, Nat.zero_add, Nat.reduceAdd, e10, e11] at hK ⊢
        rw [if_pos (by rfl)]
        go_simp
        exact hK _ _ (Below.refl _ _) (by rw [HS.out]; rfl)
      · intro ys wx hw hd K hK
        have e12 : ys 12 = _ := hd 12 (by decide)
        simp only [putL, Act.put, List.setIfInBounds_toArray, List.set_cons_zero, List.set_cons_succ, Nat.zero_add, Nat.reduceAdd, e12] at hK ⊢
        rw [if_pos (by rfl)]
        go_simp
        exact hK _ _ (Below.refl _ _) rfl
    · intro ys w' hl' hV
      have e13 : ys 13 = _ := hV 13 (by decide)
      clear hV
      simp only [putL, Act.put, List.setIfInBounds_toArray, List.set_cons_zero, List.set_cons_succ, Nat.zero_add, Nat.reduceAdd, e13]
      clear e13
      go_wp2
      go_ret
      exact ⟨rfl, hl.trans (hl'.mono hl.size)⟩
  · have b1 : ((d : Int) == (o : Int)) = true := by simp; omega
    have b1' : (d == o) = true := by simp; omega
    have b2 : ((s : Int) == (wh : Int)) = true := by simp; omega
    have b2' : (s == wh) = true := by simp; omega
    have hs : sameB d s o wh x y = (x == y) := by unfold sameB; simp [e1, e2]
    have HS := Lib.hid hs
    clear e1 e2 hs
    go_wp2_with fail
    refine region_list [Cv (.int .i64 d), Cv (.int .i64 s), Cv (.slice Ax 4 cx), Rv RdB (cellB d s x), Cv (.string (strB (cellB d s x))), Cv (.int .i64 o), Cv (.int .i64 wh), Cv (.slice Ay 4 cy), Rv RdB (cellB o wh y), Cv (.string (strB (cellB o wh y))), Cv (.bool (sameB d s o wh x y)), Cv (.bool ((strB x).toList == (strB y).toList)), Cv (.bool true), Cv (.bool true)] (by kernel_rfl) (by kernel_rfl) (by kernel_rfl) ?_ ?_ ?_
    · repeat (first | exact trivial | refine ⟨mC _, ?_⟩ | refine ⟨mR okB _, ?_⟩ | refine ⟨mT, ?_⟩ | refine ⟨mR okBB _, ?_⟩ | refine ⟨mR okBBB _, ?_⟩)
    · simp only [StepsL]
      refine ⟨?_, ?_, ?_, ?_, ?_, ?_, ?_, ?_, ?_, ?_, ?_, ?_, ?_, ?_, trivial⟩
      · intro ys wx hw hd K hK
        simp only [putL, Act.put, List.setIfInBounds_toArray, List.set_cons_zero, List.set_cons_succ, Nat.zero_add, Nat.reduceAdd] at hK ⊢
        rw [if_pos (by rfl)]
        go_simp
        exact hK _ _ (Below.refl _ _) rfl
      · intro ys wx hw hd K hK
        simp only [putL, Act.put, List.setIfInBounds_toArray, List.set_cons_zero, List.set_cons_succ, Nat.zero_add, Nat.reduceAdd] at hK ⊢
        rw [if_pos (by rfl)]
        go_simp
        exact hK _ _ (Below.refl _ _) rfl
      · intro ys wx hw hd K hK
        simp only [putL, Act.put, List.setIfInBounds_toArray, List.set_cons_zero, List.set_cons_succ, Nat.zero_add, Nat.reduceAdd] at hK ⊢
        rw [if_pos (by rfl)]
        go_simp
        exact hK _ _ (Below.refl _ _) rfl
      · intro ys wx hw hd K hK
        have e0 : ys 0 = _ := hd 0 (by decide)
        have e1 : ys 1 = _ := hd 1 (by decide)
        have e2 : ys 2 = _ := hd 2 (by decide)
        simp only [putL, Act.put, List.setIfInBounds_toArray, List.set_cons_zero, List.set_cons_succ, Nat.zero_add, Nat.reduceAdd, e0, e1, e2] at hK ⊢
        rw [if_pos (by rfl)]
        go_simp
        refine (cell_Bytes d s x _ _ _ (okB.grow hx hw) (by omega) (by omega) (by rw [H4.out]; decide)).mono ?_
        rintro e w' ⟨v', rfl, hv', hb'⟩
        exact hK _ _ hb' (hv'.toRd_ ok8)
      · intro ys wx hw hd K hK
        have k3 := hd 3 (by decide)
        change (Rv RdB (cellB d s x)) wx (ys 3) at k3
        simp only [putL, Act.put, List.setIfInBounds_toArray, List.set_cons_zero, List.set_cons_succ, Nat.zero_add, Nat.reduceAdd] at hK ⊢
        rw [if_pos (by rfl)]
        have hc := run_conv k3 Try.underlying22 Try.underlying5 Try.underlying9
        go_simp
        exact hK _ _ (Below.refl _ _) rfl
      · intro ys wx hw hd K hK
        simp only [putL, Act.put, List.setIfInBounds_toArray, List.set_cons_zero, List.set_cons_succ, Nat.zero_add, Nat.reduceAdd] at hK ⊢
        rw [if_pos (by rfl)]
        go_simp
        exact hK _ _ (Below.refl _ _) rfl
      · intro ys wx hw hd K hK
        simp only [putL, Act.put, List.setIfInBounds_toArray, List.set_cons_zero, List.set_cons_succ, Nat.zero_add, Nat.reduceAdd] at hK ⊢
        rw [if_pos (by rfl)]
        go_simp
        exact hK _ _ (Below.refl _ _) rfl
      · intro ys wx hw hd K hK
        simp only [putL, Act.put, List.setIfInBounds_toArray, List.set_cons_zero, List.set_cons_succ, Nat.zero_add, Nat.reduceAdd] at hK ⊢
        rw [if_pos (by rfl)]
        go_simp
        exact hK _ _ (Below.refl _ _) rfl
      · intro ys wx hw hd K hK
        have e5 : ys 5 = _ := hd 5 (by decide)
        have e6 : ys 6 = _ := hd 6 (by decide)
        have e7 : ys 7 = _ := hd 7 (by decide)
        simp only [putL, Act.put, List.setIfInBounds_toArray, List.set_cons_zero, List.set_cons_succ, Nat.zero_add, Nat.reduceAdd, e5, e6, e7] at hK ⊢
        rw [if_pos (by rfl)]
        go_simp
        refine (cell_Bytes o wh y _ _ _ (okB.grow hy hw) (by omega) (by omega) (by rw [G4.out]; decide)).mono ?_
        rintro e w' ⟨v', rfl, hv', hb'⟩
        exact hK _ _ hb' (hv'.toRd_ ok8)
      · intro ys wx hw hd K hK
        have k8 := hd 8 (by decide)
        change (Rv RdB (cellB o wh y)) wx (ys 8) at k8
        simp only [putL, Act.put, List.setIfInBounds_toArray, List.set_cons_zero, List.set_cons_succ, Nat.zero_add, Nat.reduceAdd] at hK ⊢
        rw [if_pos (by rfl)]
        have hc := run_conv k8 Try.underlying22 Try.underlying5 Try.underlying9
        go_simp
        exact hK _ _ (Below.refl _ _) rfl
      · intro ys wx hw hd K hK
        have e4 : ys 4 = _ := hd 4 (by decide)
        have e9 : ys 9 = _ := hd 9 (by decide)
        simp only [putL, Act.put, List.setIfInBounds_toArray, List.set_cons_zero, List.set_cons_succ, Nat.zero_add, Nat.reduceAdd, e4, e9] at hK ⊢
        rw [if_pos (by rfl)]
        go_simp
        exact hK _ _ (Below.refl _ _) (by simp only [strB_toList]; rw [HC.out]; rfl)
      · intro ys wx hw hd K hK
        simp only [putL, Act.put, List.setIfInBounds_toArray, List.set_cons_zero, List.set_cons_succ, Nat.zero_add, Nat.reduceAdd] at hK ⊢
        rw [if_pos (by rfl)]
        go_simp
        exact hK _ _ (Below.refl _ _) rfl
      · intro ys wx hw hd K hK
        have e10 : ys 10 = _ := hd 10 (by decide)
        have e11 : ys 11 = _ := hd 11 (by decide)
        simp only [putL, Act.put, List.setIfInBounds_toArray, List.set_cons_zero, List.set_cons_succ, Nat.zero_add, Nat.reduceAdd, e10, e11] at hK ⊢
        rw [if_pos (by rfl)]
        go_simp
        exact hK _ _ (Below.refl _ _) (by rw [strB_toList, strB_toList, HS.out]; simp; rfl)
      · intro ys wx hw hd K hK
        have e12 : ys 12 = _ := hd 12 (by decide)
        simp only [putL, Act.put, List.setIfInBounds_toArray, List.set_cons_zero, List.set_cons_succ, Nat.zero_add, Nat.reduceAdd, e12] at hK ⊢
        rw [if_pos (by rfl)]
        go_simp
        exact hK _ _ (Below.refl _ _) rfl
    · intro ys w' hl' hV
      have e13 : ys 13 = _ := hV 13 (by decide)
      clear hV
      simp only [putL, Act.put, List.setIfInBounds_toArray, List.set_cons_zero, List.set_cons_succ, Nat.zero_add, Nat.reduceAdd, e13]
      clear e13
      go_wp2
      go_ret
      exact ⟨rfl, hl.trans (hl'.mono hl.size)⟩
namespace cellUnlikeDone
open Go.ChangeShapes Go.WideShapes Go.ChangeAt Go.RowKit M
open Go.ChangeMaps (open_string shut_string)
set_option linter.unusedVariables false
set_option maxRecDepth 100000 in
theorem lifted (os : Os) (started : os.Started) (H : Type) (enc : TypeId × Value → H) :
    ReturnsInHanded {} Try.checked os 12 .any (Rows.cellUnlikeSpec.pre6 enc Try.prog Try.f12 Rows.cellUnlikeRow.domain false) (Rows.cellUnlikeSpec.post enc Try.prog Try.f12 false true false false) := by
  refine returnsInHanded_of_change (C := Try.checked) own started (by kernel_rfl) Try.func12
    (ChangeSpec.witness6 (enc := enc) (C := Try.checked) false ⟨#[], #[.int .i64 0, .int .i64 0, .slice none 0 0, .int .i64 0, .int .i64 0, .slice none 0 0], []⟩ 8 (by kernel_rfl) (by kernel_rfl) (by kernel_rfl) (by kernel_rfl)) ?_
  intro W base args ds gs before hval0 hW hcnd _
  have hval : ∀ (j : Nat) t v, Try.f12.params[j]? = some t → args[j]? = some v → Value.okWide Try.prog W .any base t v := hval0
  have hW' := hW
  obtain ⟨p, q, hA0, hV, rfl, hfz, hnd⟩ := hW
  have hA : DataW.TrodAll enc Try.prog W 0 (fun _ => true) true Try.f12.params.toList args.toList ds p := hA0
  rw [Try.params12] at hA hval
  obtain ⟨v0, vs0, d0, ds0, p0, q0, hargs, rfl, rfl, h0, r0⟩ := trodAll_cons hA
  obtain ⟨v1, vs1, d1, ds1, p1, q1, rfl, rfl, rfl, h1, r1⟩ := trodAll_cons r0
  obtain ⟨v2, vs2, d2, ds2, p2, q2, rfl, rfl, rfl, h2, r2⟩ := trodAll_cons r1
  obtain ⟨v3, vs3, d3, ds3, p3, q3, rfl, rfl, rfl, h3, r3⟩ := trodAll_cons r2
  obtain ⟨v4, vs4, d4, ds4, p4, q4, rfl, rfl, rfl, h4, r4⟩ := trodAll_cons r3
  obtain ⟨v5, vs5, d5, ds5, p5, q5, rfl, rfl, rfl, h5, r5⟩ := trodAll_cons r4
  obtain ⟨rfl, rfl, rfl⟩ := trodAll_nil r5
  obtain rfl : args = #[v0, v1, v2, v3, v4, v5] := by cases args; simp_all
  obtain ⟨rfl, rfl⟩ := trodVars_none hV
  obtain ⟨a0, rfl, rfl, rfl, w0⟩ := open_int Try.underlying3 (hval 0 3 v0 rfl rfl) h0
  have b0 := bounds_i64 w0
  obtain ⟨a1, rfl, rfl, rfl, w1⟩ := open_int Try.underlying3 (hval 1 3 v1 rfl rfl) h1
  have b1 := bounds_i64 w1
  obtain ⟨a2, len2, cap2, rfl⟩ := okWide_slice Try.underlying22 (hval 2 22 v2 rfl rfl)
  have k2 := h2
  have lt2 : ∀ x ∈ p2, x.block < W.heap.size := by obtain ⟨m, hm⟩ := k2; exact DataW.trod_lt m _ _ _ hm
  obtain ⟨fuel2, hf2⟩ := h2
  obtain ⟨b2, w2, l2⟩ := M.open_B Try.underlying22 Try.underlying5 (by kernel_rfl) hf2
  obtain ⟨a3, rfl, rfl, rfl, w3⟩ := open_int Try.underlying3 (hval 3 3 v3 rfl rfl) h3
  have b3 := bounds_i64 w3
  obtain ⟨a4, rfl, rfl, rfl, w4⟩ := open_int Try.underlying3 (hval 4 3 v4 rfl rfl) h4
  have b4 := bounds_i64 w4
  obtain ⟨a5, len5, cap5, rfl⟩ := okWide_slice Try.underlying22 (hval 5 22 v5 rfl rfl)
  have k5 := h5
  have lt5 : ∀ x ∈ p5, x.block < W.heap.size := by obtain ⟨m, hm⟩ := k5; exact DataW.trod_lt m _ _ _ hm
  obtain ⟨fuel5, hf5⟩ := h5
  obtain ⟨b5, w5, l5⟩ := M.open_B Try.underlying22 Try.underlying5 (by kernel_rfl) hf5
  clear hA0 hval0
  refine (cellUnlike_walk a0 a1 b2 _ a3 a4 b5 _ W b0.1 b0.2 b1.1 b1.2 w2 b3.1 b3.2 b4.1 b4.2 w5).mono fun e W' ⟨he, bel⟩ => ?_
  subst he
  exact ⟨_, rfl, _, _, _, [], _, [], hW', trodAll_mk1 (shut_bool Try.underlying4 _), (trodAll_cons_mk (shut_int Try.underlying3 w0) (trodAll_cons_mk (shut_int Try.underlying3 w1) (trodAll_cons_mk (Below.trod laidOut (by kernel_rfl) (of_decide_eq_true (by kernel_rfl)) k2 bel lt2) (trodAll_cons_mk (shut_int Try.underlying3 w3) (trodAll_cons_mk (shut_int Try.underlying3 w4) (trodAll_cons_mk (Below.trod laidOut (by kernel_rfl) (of_decide_eq_true (by kernel_rfl)) k5 bel lt5) trodAll_mk0)))))), rfl, bel.frame _, fun h => by cases h⟩
theorem over : Rows.cellUnlikeRow.holds Try.pinned (OpenSpec.ofChange Rows.cellUnlikeSpec) :=
  OpenClaim.holds_of_wide 12 Try.f12 rfl rfl rfl rfl rfl rfl rfl ⟨rfl, rfl, rfl, rfl, rfl⟩ rfl rfl rfl rfl rfl (by kernel_rfl) Try.func12 (by kernel_rfl)
    (of_decide_eq_true (by kernel_rfl)) (by unfold Func.isWrapper; first | (rw [if_pos (by decide +kernel)]; kernel_rfl) | (rw [if_neg (by decide +kernel)]; exact ⟨rfl, rfl⟩))
    (fun os started H enc _ => lifted os started H enc)
/-- The statement. -/
theorem proved : Rows.CellUnlikeSaid := over
end cellUnlikeDone
end Go.Proofs.Ytobhkdobocjoeaa

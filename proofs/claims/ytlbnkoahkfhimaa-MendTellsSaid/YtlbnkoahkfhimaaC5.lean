/- Chapter 5: what model.New, Wrong, Do, Same and the reference's NewBlocks, Wrong, RightBlocks, Do, SameBytes compute. -/
import Derived.Test.YtlbnkoahkfhimaaMem2
import Derived.Test.YtlbnkoahkfhimaaCL
import Derived.Test.YtlbnkoahkfhimaaC3
import Derived.Test.YtlbnkoahkfhimaaC4
import Derived.Test.YtlbnkoahkfhimaaPure5
namespace Go.Proofs.Ytlbnkoahkfhimaa
set_option linter.unusedVariables false
open Go Go.RowKit M
/-- A deed, as a value. -/
def RdD (w : World) (F : Fp) (v : Value) (d : Deed) : Prop := ∃ dv, v = .agg #[.int .i64 d.kind, .int .i64 d.n, .int .i64 d.m, dv] ∧ RdB w F dv d.data
theorem wrong_there (n : Int) (w : World) :
    Calls Try.prog 51 #[.int .i64 n] w fun e w' => e = .returned (.bool (decide (0 ≤ n) && decide (n < 9))) ∧ w = w' := by
  by_cases h0 : 0 ≤ n <;> by_cases h1 : n < 9
  all_goals
    go_enter Try.func51, Try.ntmps51
    go_wp2
    all_goals (go_ret; exact ⟨ret_bool (by simp [*]), rfl⟩)
set_option maxHeartbeats 400000 in
theorem model_Wrong (d : Deed) (v : Value) (F : Fp) (w : World) (h : RdD w F v d) :
    Calls Try.prog 18 #[v] w fun e w' => e = .returned (.int .i64 (wrongI d)) ∧ Below w.heap.size w w' := by
  obtain ⟨dv, rfl, hd⟩ := h
  obtain ⟨A, c, rfl, _, _⟩ := hd.shape
  clear hd
  go_enter Try.func18, Try.ntmps18
  go_wp2_with (go_at_call 51; refine (wrong_there _ _).mono ?_; rintro e w' ⟨rfl, rfl⟩)
  all_goals (go_ret; refine ⟨ret_int ?_, by first | exact below_alloc _ _ | exact (below_alloc _ _).drew⟩)
  all_goals (simp only [beq_iff_eq, bne_iff_ne, beq_eq_false_iff_ne, bne_eq_false_iff_eq, ne_eq] at *; unfold wrongI; (repeat' split) <;> first | rfl | omega)
def whS (n : Int) : Int := if InB n then n / 3 else 0
def whD' (n : Int) : Int := if InB n then ((where_ n.toNat : Nat) : Int) else 0
def whE (n : Int) : Int := if InB n then 0 else 3
theorem wh_cases (n : Int) : (0 ≤ n ∧ n < 9 ∧ whE n = 0 ∧ whS n = n / 3) ∨ ((n < 0 ∨ 9 ≤ n) ∧ whE n = 3 ∧ whS n = 0) := by
  unfold whE whS
  by_cases h : InB n
  · rw [if_pos h, if_pos h]; omega
  · rw [if_neg h, if_neg h]; omega
theorem ref_Where_any (n : Int) (w : World) :
    Calls Try.prog 52 #[.int .i64 n] w fun e w' => e = .returned (.tuple #[.int .i64 (whD' n), .int .i64 (whS n), .int .i64 (whE n)]) ∧ Below w.heap.size w w' := by
  by_cases h : InB n
  · obtain ⟨k, rfl⟩ : ∃ k : Nat, n = k := ⟨n.toNat, by omega⟩
    have := ref_Where k w (by omega)
    unfold whS whD' whE
    rw [if_pos h, if_pos h, if_pos h]
    simpa using this
  · have := ref_Where_no n w (by omega)
    unfold whS whD' whE
    rw [if_neg h, if_neg h, if_neg h]
    exact this
set_option maxHeartbeats 400000 in
theorem ref_Wrong (d : Deed) (v : Value) (F : Fp) (w : World) (h : RdD w F v d) :
    Calls Try.prog 19 #[v] w fun e w' => e = .returned (.int .i64 (wrongI d)) ∧ Below w.heap.size w w' := by
  obtain ⟨dv, rfl, hd⟩ := h
  obtain ⟨A, c, rfl, _, _⟩ := hd.shape
  clear hd
  have hnew := Lib.hid (boxed4_new w (.int .i64 d.kind) (.int .i64 d.n) (.int .i64 d.m) (.slice A d.data.length c) 25)
  have hnb := Lib.hid (below_alloc w (.cells #[.int .i64 d.kind, .int .i64 d.n, .int .i64 d.m, .slice A d.data.length c] 25))
  go_enter Try.func19, Try.ntmps19
  go_wp2_with fail
  all_goals try (
    refine (ref_Where_any _ _).mono ?_
    rintro e w1 ⟨rfl, hb1⟩
    have hx1 := Lib.hid (Boxed4.keep hnew.out hb1 hnew.out.lt)
    have hnb1 := Lib.hid (Below.trans hnb.out (hb1.mono hnb.out.size))
    obtain ⟨k0, k1, k2, k3, _⟩ := id hx1.out
    go_wp2_with fail
    refine (ref_Where_any _ _).mono ?_
    rintro e w2 ⟨rfl, hb2⟩
    have hx2 := Lib.hid (Boxed4.keep hx1.out hb2 hx1.out.lt)
    have hnb2 := Lib.hid (Below.trans hnb1.out (hb2.mono hnb1.out.size))
    clear k0 k1 k2 k3 hb1 hb2
    obtain ⟨k0, k1, k2, k3, _⟩ := id hx2.out
    go_wp2_with fail)
  all_goals (go_ret; refine ⟨ret_int ?_, by first | exact below_alloc _ _ | exact hnb2.out⟩)
  all_goals have hwn := wh_cases d.n
  all_goals have hwm := wh_cases d.m
  all_goals ((try simp only [bne_iff_ne, beq_eq_false_iff_ne, bne_eq_false_iff_eq, ne_eq] at *); unfold wrongI; (repeat' split) <;> first | rfl | omega)
theorem newB_take (k : Nat) (h : k < 9) : newB.take k ++ [zero4] = newB.take (k + 1) := by
  unfold newB
  rw [List.take_replicate, List.take_replicate, Nat.min_eq_left (by omega), Nat.min_eq_left (by omega), List.replicate_succ']
theorem mk4_rd (w : World) (F : Fp) (hF : F w.heap.size) : RdB (w.alloc (.cells #[.int .u8 0, .int .u8 0, .int .u8 0, .int .u8 0] 5)) F (.slice (some ⟨w.heap.size, 0, none⟩) 4 4) zero4 :=
  RdL.new_ ok8 (us := zero4.map B8) (xs := zero4) 5 rfl (by decide) hF fun j u x hu hx => by
    simp at hu
    obtain ⟨c, hc, rfl⟩ := hu
    rw [hc] at hx
    injection hx with hx
    subst hx
    rfl
set_option maxHeartbeats 400000 in
theorem model_New (w : World) :
    Calls Try.prog 16 #[] w fun e w' => ∃ v', e = .returned v' ∧ Bld RdB 23 w' w.heap.size (fun _ => True) v' newB ∧ Below w.heap.size w w' := by
  have hmk := mk4
  go_enter Try.func16, Try.ntmps16
  go_wp2
  go_loopw [1, 2] (fun v i wr => ∃ k : Nat, k ≤ 9 ∧ i = .int .i64 k ∧ Bld RdB 23 wr w.heap.size (fun _ => True) v (newB.take k) ∧ Below w.heap.size w wr) (fun _ i _ => 9 - (intOf i).toNat)
  case atStart => exact ⟨0, Nat.zero_le _, rfl, Bld.nil_ _ _ _ _ _, Below.refl _ _⟩
  case round =>
    obtain ⟨k, hk, rfl, hO, hlw⟩ := hrel
    by_cases hlt : k < 9
    · have hsz := Lib.hid hlw.size
      have hNx := Lib.hid (newB_take k hlt)
      have hlen : (newB.take k).length = k := by unfold newB; simp; omega
      have HL := Lib.hid hlen
      clear hlen
      have hb1 := below_alloc wr (.cells #[.int .u8 0, .int .u8 0, .int .u8 0, .int .u8 0] 5)
      have hO1 := hO.grow okB hb1
      have hrd := mk4_rd wr (fun k => some k ≠ u1.ownBlock ∧ True) ⟨not_own fun k hk => (hO.blk k hk).2, trivial⟩
      have HS := Lib.hid (src_one okB hO1 trivial hrd 23 (alloc_size _ _))
      have hb2 := hb1.trans ((below_alloc (wr.alloc (.cells #[.int .u8 0, .int .u8 0, .int .u8 0, .int .u8 0] 5)) (.cells #[.slice (some ⟨wr.heap.size, 0, none⟩) 4 4] 23)).mono hb1.size)
      have HB := Lib.hid hb2
      have HO := Lib.hid (hO.grow okB hb2)
      clear hrd hb1 hb2 hO hO1
      go_wp2_with (at_builtin; refine wpList_append_bld _ rfl _ _ 22 rfl okB slBB w.heap.size (fun _ => True) _ _ (newB.take k) [zero4] rfl rfl HO.out HS.out ?c1 ?c2 ?c3)
      case c1 => rw [HL.out]; simp; omega
      case c2 => exact Nat.le_trans hsz.out HB.out.size
      case c3 =>
        intro v' w' hBld hBelow _ _
        rw [hNx.out] at hBld
        go_wp2
        go_roundw
        case rel => exact ⟨k + 1, by omega, by go_num, hBld, (hlw.trans (HB.out.mono hsz.out)).trans hBelow⟩
        case measure => simp [intOf]; omega
    · go_wp2
      obtain rfl : k = 9 := by omega
      go_ret
      exact ⟨_, rfl, hO, hlw⟩
end Go.Proofs.Ytlbnkoahkfhimaa

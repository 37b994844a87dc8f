/- Chapter 5, second part. -/
import Derived.Test.YtlbnkoahkfhimaaC5
namespace Go.Proofs.Ytlbnkoahkfhimaa
set_option linter.unusedVariables false
open Go Go.RowKit M
set_option maxHeartbeats 400000 in
theorem ref_NewBlocks (w : World) :
    Calls Try.prog 17 #[] w fun e w' => ∃ v', e = .returned v' ∧ Bld RdB 23 w' w.heap.size (fun _ => True) v' newB ∧ Below w.heap.size w w' := by
  go_enter Try.func17, Try.ntmps17
  go_wp2
  go_loopw [1, 2] (fun v i wr => ∃ k : Nat, k ≤ 9 ∧ i = .int .i64 k ∧ Bld RdB 23 wr w.heap.size (fun _ => True) v (newB.take k) ∧ Below w.heap.size w wr) (fun _ i _ => 9 - (intOf i).toNat)
  case atStart => exact ⟨0, Nat.zero_le _, rfl, Bld.nil_ _ _ _ _ _, Below.refl _ _⟩
  case round =>
    obtain ⟨k, hk, rfl, hO, hlw⟩ := hrel
    by_cases hlt : k < 9
    · have hsz := Lib.hid hlw.size
      have hNx := Lib.hid (newB_take k hlt)
      have hlen : (newB.take k).length = k := by unfold newB; simp; omega
      have HL := Lib.hid hlen
      clear hlen
      have hb1 := below_alloc wr (.cells #[.int .u8 0, .int .u8 0, .int .u8 0, .int .u8 0] 5)
      have hO1 := hO.grow okB hb1
      have hrd := mk4_rd wr (fun k => some k ≠ u1.ownBlock ∧ True) ⟨not_own fun k hk => (hO.blk k hk).2, trivial⟩
      have HS := Lib.hid (src_one okB hO1 trivial hrd 23 (alloc_size _ _))
      have hb2 := hb1.trans ((below_alloc (wr.alloc (.cells #[.int .u8 0, .int .u8 0, .int .u8 0, .int .u8 0] 5)) (.cells #[.slice (some ⟨wr.heap.size, 0, none⟩) 4 4] 23)).mono hb1.size)
      have HB := Lib.hid hb2
      have HO := Lib.hid (hO.grow okB hb2)
      clear hrd hb1 hb2 hO hO1
      go_wp2_with (at_builtin; refine wpList_append_bld _ rfl _ _ 22 rfl okB slBB w.heap.size (fun _ => True) _ _ (newB.take k) [zero4] rfl rfl HO.out HS.out ?c1 ?c2 ?c3)
      case c1 => rw [HL.out]; simp; omega
      case c2 => exact Nat.le_trans hsz.out HB.out.size
      case c3 =>
        intro v' w' hBld hBelow _ _
        rw [hNx.out] at hBld
        go_wp2
        go_roundw
        case rel => exact ⟨k + 1, by omega, by go_num, hBld, (hlw.trans (HB.out.mono hsz.out)).trans hBelow⟩
        case measure => simp [intOf]; omega
    · go_wp2
      obtain rfl : k = 9 := by omega
      go_ret
      exact ⟨_, rfl, hO, hlw⟩
/-- Blocks as they must be. -/
def rightB (l : List Bs) : Bool := l.all (fun b => b.length == 4) && l.length == 9
set_option maxHeartbeats 400000 in
theorem ref_RightBlocks (l : List Bs) (v : Value) (F : Fp) (w : World) (h : RdBB w F v l) :
    Calls Try.prog 20 #[v] w fun e w' => e = .returned (.bool (rightB l)) ∧ w = w' := by
  obtain ⟨A, c, rfl, _, hm⟩ := h.shape
  unfold maxLen at hm
  have H := Lib.hid h
  clear h
  go_enter Try.func20, Try.ntmps20
  go_wp2
  go_loop [7] (fun i => ∃ k : Nat, k ≤ l.length ∧ i = .int .i64 k ∧ ∀ j (hj : j < l.length), j < k → l[j].length = 4) (fun i => l.length - (intOf i).toNat)
  case atStart => exact ⟨0, Nat.zero_le _, rfl, fun j _ hj => by omega⟩
  case round =>
    obtain ⟨k, hk, rfl, hz⟩ := hrel
    have HZ := Lib.hid hz
    clear hz
    by_cases hlt : k < l.length
    · obtain ⟨ba, oa, u, rfl, _, hu, hR⟩ := H.out.at_ (k := k) hlt
      obtain ⟨A2, c2, rfl, _, _⟩ := hR.shape
      clear hR
      by_cases h4 : l[k].length = 4
      · have HE := Lib.hid h4
        rw [h4] at hu
        clear h4
        go_wp2
        go_round
        case rel => exact ⟨k + 1, by omega, by go_num, fun j h1 hj => by rcases Nat.lt_succ_iff_lt_or_eq.1 hj with h | rfl; exact HZ.out j h1 h; exact HE.out⟩
        case measure => simp [intOf]; omega
      · have hne : ((l[k].length : Int) != 4) = true := bne_iff_ne.mpr fun e => h4 (by omega)
        have HN : Hid (rightB l = false) := by
          refine Lib.hid ?_
          have : l.all (fun b => b.length == 4) = false := by
            rw [List.all_eq_false]
            exact ⟨l[k], List.getElem_mem hlt, by simpa using h4⟩
          simp [rightB, this]
        clear h4
        go_wp2
        go_ret
        exact ⟨ret_bool HN.out.symm, rfl⟩
    · obtain rfl : k = l.length := by omega
      have hall : l.all (fun b => b.length == 4) = true := by
        rw [List.all_eq_true]
        intro b hb
        obtain ⟨j, hj, rfl⟩ := List.getElem_of_mem hb
        simpa using HZ.out j hj hj
      have HA : Hid (rightB l = (l.length == 9)) := Lib.hid (by simp [rightB, hall])
      clear hall
      go_wp2
      go_ret
      refine ⟨ret_bool ?_, rfl⟩
      rw [HA.out]
      by_cases h9 : l.length = 9
      · rw [h9]; rfl
      · rw [beq_false_of_ne h9, beq_false_of_ne (by omega)]

set_option maxHeartbeats 400000 in
theorem ref_SameBytes (a b : List Bs) (va vb : Value) (F : Fp) (w : World) (ha : RdBB w F va a) (hb : RdBB w F vb b) :
    Calls Try.prog 15 #[va, vb] w fun e w' => e = .returned (.bool (a == b)) ∧ Below w.heap.size w w' := by
  obtain ⟨A, ca, rfl, _, hm⟩ := ha.shape
  obtain ⟨B, cb, rfl, _, _⟩ := hb.shape
  by_cases hl : a.length = b.length
  · have HL := Lib.hid hl
    rw [← hl] at hb ⊢
    clear hl
    unfold maxLen at hm
    go_enter Try.func15, Try.ntmps15
    go_wp2
    go_loopw [13] (fun i wr => ∃ k : Nat, k ≤ a.length ∧ i = .int .i64 k ∧ (∀ j, j < k → a[j]? = b[j]?) ∧ Below w.heap.size w wr) (fun i _ => a.length - (intOf i).toNat)
    case atStart => exact ⟨0, Nat.zero_le _, rfl, fun j hj => by omega, Below.refl _ _⟩
    case round =>
      obtain ⟨k, hk, rfl, hpre, hlw⟩ := hrel
      have HP := Lib.hid hpre
      clear hpre
      by_cases hlt : k < a.length
      · obtain ⟨ba, oa, u, rfl, _, hu, hR⟩ := (okBB.grow ha hlw).at_ (k := k) hlt
        have hltb : k < b.length := by rw [← HL.out]; exact hlt
        obtain ⟨bb, ob, u2, rfl, _, hu2, hR2⟩ := (okBB.grow hb hlw).at_ (k := k) hltb
        have hc1 := fun n => run_conv (okB.grow hR (Below.drewN_ _ _ n)) Try.underlying23 Try.underlying5 Try.underlying9
        have hc2 := fun n => run_conv (okB.grow hR2 (Below.drewN_ _ _ n)) Try.underlying23 Try.underlying5 Try.underlying9
        clear hR hR2 ha hb
        by_cases he : a[k] = b[k]
        · rw [he] at hc1
          have HE := Lib.hid he
          clear he
          go_wp2_with fail
          go_quiet (fail)
          go_wp2
          go_roundw
          case rel => exact ⟨k + 1, by omega, by go_num, fun j hj => by rcases Nat.lt_succ_iff_lt_or_eq.1 hj with h | rfl; exact HP.out j h; rw [List.getElem?_eq_getElem hlt, List.getElem?_eq_getElem hltb, HE.out], hlw.trans (Below.drewN_ _ _ _)⟩
          case measure => simp [intOf]; omega
        · have HN := Lib.hid (show (a == b) = false from beq_false_of_ne fun e => he (by subst e; rfl))
          have hne : (a[k] == b[k]) = false := beq_false_of_ne he
          have hT1 := strB_toList a[k]
          have hT2 := strB_toList b[k]
          clear he
          go_wp2_with fail
          go_quiet (fail)
          go_wp2
          go_ret
          exact ⟨ret_bool HN.out.symm, hlw.trans (Below.drewN_ _ _ _)⟩
      · go_wp2
        obtain rfl : k = a.length := by omega
        go_ret
        refine ⟨ret_bool ?_, hlw⟩
        have : a = b := take_all HL.out HP.out
        subst this
        simp
  · have hne : (a == b) = false := beq_false_of_ne fun e => hl (by rw [e])
    have hli : ((a.length : Int) == (b.length : Int)) = false := beq_false_of_ne fun e => hl (by omega)
    rw [hne]
    clear hl hne ha hb
    go_enter Try.func15, Try.ntmps15
    go_wp2
    go_ret
    exact ⟨rfl, Below.refl _ _⟩
end Go.Proofs.Ytlbnkoahkfhimaa

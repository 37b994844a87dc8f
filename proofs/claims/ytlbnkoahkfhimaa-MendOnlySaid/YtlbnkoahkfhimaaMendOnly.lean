/- Chapter 9: MendOnly holds for every input: the call returns true, and each argument reads behind it as it read before. -/
import Derived.Test.YtlbnkoahkfhimaaOpen3
import Derived.Test.YtlbnkoahkfhimaaL9
namespace Go.Proofs.Ytlbnkoahkfhimaa
set_option linter.unusedVariables false
open Go Go.RowKit M
set_option maxRecDepth 100000 in
set_option maxHeartbeats 3200000 in
theorem mendOnly_walk (l : List Step) (vl : Value) (s : Int) (w : World) (hl : RdSts w (fun _ => True) vl l) (_ : -9223372036854775808 ≤ s) (_ : s ≤ 9223372036854775807) :
    Calls Try.prog 14 #[vl, .int .i64 s] w fun e w' => e = .returned (.bool true) ∧ Below w.heap.size w w' := by
  obtain ⟨Ast, cst, rfl, _, _⟩ := id hl
  have HL0 := Lib.hid hl
  have HBel := Lib.hid (Below.refl w.heap.size w)
  clear hl
  go_enter Try.func14, Try.ntmps14
  go_wp2_with fail
  refine (law9_alive _).mono ?_
  rintro e w0 ⟨rfl, hb⟩
  replace HBel := Lib.hid (HBel.out.trans (hb.mono HBel.out.size))
  have HL := Lib.hid (HL0.out.below hb fun _ _ hk => hk)
  clear hb HL0
  go_wp2_with fail
  refine (ref_Play l _ _ _ HL.out).mono ?_
  rintro e waA ⟨vA, uu, rfl, hr, hu, hb⟩
  obtain ⟨bA, oA, cA, AA, dA, rfl, _, _, hcA, hmA⟩ := RdA_open hr (playTo_good l 100).1
  rw [show (playA l).ints.length = 0 by rw [show (playA l).ints = [] from (playTo_good l 100).2]; rfl] at hr ⊢
  have ord0A : w.heap.size ≤ waA.heap.size := Nat.le_trans HBel.out.size hb.size
  have hal := below_alloc waA (.cells #[.slice (some ⟨bA, oA, none⟩) 4 cA, .slice AA 0 dA] 41)
  have hX := boxAt_new waA 41 [.slice (some ⟨bA, oA, none⟩) 4 cA, .slice AA 0 dA]
  have hbb := hb.trans (hal.mono hb.size)
  have hrl := hr.lt.mono (F' := fun k => w.heap.size ≤ k ∧ k < waA.heap.size) fun k hk => by have := HBel.out.size;  omega
  have HRdA := Lib.hid (hrl.grow hal)
  replace HBel := Lib.hid (HBel.out.trans (hbb.mono HBel.out.size))
  obtain ⟨wA, hwA⟩ : ∃ x, waA.alloc (.cells #[.slice (some ⟨bA, oA, none⟩) 4 cA, .slice AA 0 dA] 41) = x := ⟨_, rfl⟩
  change BoxAt (waA.alloc (.cells #[.slice (some ⟨bA, oA, none⟩) 4 cA, .slice AA 0 dA] 41)) _ _ _ at hX
  rw [hwA] at hX HRdA HBel   
  have HBxA := Lib.hid hX
  clear hal hX hbb hr hb hrl
  obtain ⟨pA0, pA1, pA2, pA3⟩ := HBxA.out.two
  go_wp2_with fail
  clear hwA
  obtain ⟨hsh, hno⟩ := playTo_good l 100
  change Shape (playA l).disks at hsh
  change (playA l).ints = [] at hno
  generalize playA l = a at *
  have HSN := Lib.hid (And.intro hsh hno)
  have HSX := Lib.hid (And.intro (mend_shape hsh s) (mend_ints hno s))
  have HO := Lib.hid (mend_only hsh s)
  clear hsh hno
  refine (mend_Stripe a s _ _ _ HRdA.out HSN.out.1 HSN.out.2).mono ?_
  rintro e waX ⟨vX, rfl, hr, hb⟩
  obtain ⟨bX, oX, cX, AX, dX, rfl, _, _, hcX, hmX⟩ := RdA_open hr HSX.out.1
  rw [show (mendA a s).1.ints.length = 0 by rw [HSX.out.2]; rfl] at hr ⊢
  have ord0X : w.heap.size ≤ waX.heap.size := Nat.le_trans HBel.out.size hb.size
  have ordAX : waA.heap.size < waX.heap.size := Nat.lt_of_lt_of_le HBxA.out.lt hb.size
  have hal := below_alloc waX (.cells #[.slice (some ⟨bX, oX, none⟩) 4 cX, .slice AX 0 dX] 41)
  have hX := boxAt_new waX 41 [.slice (some ⟨bX, oX, none⟩) 4 cX, .slice AX 0 dX]
  have hbb := hb.trans (hal.mono hb.size)
  have hrl := hr.lt.mono (F' := fun k => waA.heap.size < k ∧ k < waX.heap.size) fun k hk => by have := HBel.out.size; have := HBxA.out.lt; omega
  have HRdX := Lib.hid (hrl.grow hal)
  replace HBxA := Lib.hid (HBxA.out.grow hbb)
  replace HRdA := Lib.hid (HRdA.out.grow hbb)
  replace HBel := Lib.hid (HBel.out.trans (hbb.mono HBel.out.size))
  clear pA0 pA1 pA2 pA3
  obtain ⟨wX, hwX⟩ : ∃ x, waX.alloc (.cells #[.slice (some ⟨bX, oX, none⟩) 4 cX, .slice AX 0 dX] 41) = x := ⟨_, rfl⟩
  change BoxAt (waX.alloc (.cells #[.slice (some ⟨bX, oX, none⟩) 4 cX, .slice AX 0 dX] 41)) _ _ _ at hX
  rw [hwX] at hX HRdX HBel HBxA HRdA 
  have HBxX := Lib.hid hX
  clear hal hX hbb hr hb hrl
  obtain ⟨pA0, pA1, pA2, pA3⟩ := HBxA.out.two
  obtain ⟨pX0, pX1, pX2, pX3⟩ := HBxX.out.two
  generalize (mendA a s).1 = x at *
  generalize (mendA a s).2.1 = n at *
  generalize (mendA a s).2.2 = er at *
  by_cases he : er = 0
  rotate_left
  · have hne : (er != 0) = true := by simpa using he
    obtain ⟨hxa, h3⟩ := HO.out.1 he
    subst hxa
    have H3 := Lib.hid h3
    clear he h3
    go_wp2_with fail
    clear hwX
    refine (ref_Same _ _ _ _ _ _ _ HRdX.out HRdA.out HSX.out.1 HSX.out.1 HSX.out.2 HSX.out.2).mono ?_
    rintro e wq1 ⟨rfl, hb⟩
    rw [beq_self_eq_true]
    replace HBxA := Lib.hid (HBxA.out.grow hb)
    replace HBxX := Lib.hid (HBxX.out.grow hb)
    replace HRdA := Lib.hid (HRdA.out.grow hb)
    replace HRdX := Lib.hid (HRdX.out.grow hb)
    replace HBel := Lib.hid (HBel.out.trans (hb.mono HBel.out.size))
    clear pA0 pA1 pA2 pA3 pX0 pX1 pX2 pX3
    clear hb
    obtain ⟨pA0, pA1, pA2, pA3⟩ := HBxA.out.two
    obtain ⟨pX0, pX1, pX2, pX3⟩ := HBxX.out.two
    by_cases h33 : er = 3
    · have e3 : (er == 3) = true := by simpa using h33
      clear h33
      go_wp2
      go_ret
      exact ⟨rfl, HBel.out⟩
    · have e3 : (er == 3) = false := by simpa using h33
      have h1 : 1 < n := by rcases H3.out with h | h; exact absurd h h33; exact h
      have d1 : decide (1 < n) = true := by simpa using h1
      clear h33 h1
      go_wp2
      go_ret
      exact ⟨rfl, HBel.out⟩
  obtain ⟨hcells, hn1⟩ := HO.out.2 he
  have HC := Lib.hid hcells
  have d1 : decide (n ≤ 1) = true := by simpa using hn1
  subst he
  clear hcells hn1
  go_wp2_with fail
  clear hwX
  clear pA0 pA1 pA2 pA3 pX0 pX1 pX2 pX3
  go_loopw [38] (fun i wr => ∃ k : Nat, k ≤ 3 ∧ i = .int .i64 k ∧ Below wX.heap.size wX wr) (fun i _ => 3 - (intOf i).toNat)
  case atStart => exact ⟨0, Nat.zero_le _, rfl, Below.refl _ _⟩
  case round =>
    obtain ⟨k, hk, rfl, hlw⟩ := hrel
    have HLW := Lib.hid hlw
    by_cases hlt : k < 3
    · have hbk : decide ((k : Int) < 3) = true := by simp; omega
      clear hlw
      by_cases hks : (k : Int) = s
      · subst hks
        have q0 : ((k : Int) != (k : Int)) = false := by simp
        go_wp2_with fail
        refine region_list [Cv (.int .i64 k), Cv (.int .i64 k), Cv (.bool false), Cv (.bool false), Cv (undef), Cv (undef), Cv (undef), Cv (undef), Cv (undef), Cv (undef), Cv (undef), Cv (undef), Cv (.bool false)] (by kernel_rfl) (by kernel_rfl) (by kernel_rfl) ?_ ?_ ?_
        · repeat (first | exact trivial | refine ⟨mC _, ?_⟩ | refine ⟨mR okB _, ?_⟩ | refine ⟨mT, ?_⟩ | refine ⟨mR okBB _, ?_⟩ | refine ⟨mR okBBB _, ?_⟩ | refine ⟨mKt _, ?_⟩ | refine ⟨mRa _ _, ?_⟩)
        · simp only [StepsL]
          refine ⟨?_, ?_, ?_, ?_, ?_, ?_, ?_, ?_, ?_, ?_, ?_, ?_, ?_, trivial⟩
          · intro ys wx hw hd K hK
            simp only [putL, Act.put, List.setIfInBounds_toArray, List.set_cons_zero, List.set_cons_succ, Nat.zero_add, Nat.reduceAdd] at hK ⊢
            rw [if_pos (by rfl)]
            go_simp
            exact hK _ _ (Below.refl _ _) rfl
          · intro ys wx hw hd K hK
            simp only [putL, Act.put, List.setIfInBounds_toArray, List.set_cons_zero, List.set_cons_succ, Nat.zero_add, Nat.reduceAdd] at hK ⊢
            rw [if_pos (by rfl)]
            go_simp
            exact hK _ _ (Below.refl _ _) rfl
          · intro ys wx hw hd K hK
            have e0 : ys 0 = _ := hd 0 (by decide)
            have e1 : ys 1 = _ := hd 1 (by decide)
            simp only [putL, Act.put, List.setIfInBounds_toArray, List.set_cons_zero, List.set_cons_succ, Nat.zero_add, Nat.reduceAdd, e0, e1] at hK ⊢
            rw [if_pos (by rfl)]
            go_simp
            exact hK _ _ (Below.refl _ _) rfl
          · intro ys wx hw hd K hK
            have e2 : ys 2 = _ := hd 2 (by decide)
            simp only [putL, Act.put, List.setIfInBounds_toArray, List.set_cons_zero, List.set_cons_succ, Nat.zero_add, Nat.reduceAdd, e2] at hK ⊢
            rw [if_pos (by rfl)]
            go_simp
            exact hK _ _ (Below.refl _ _) rfl
          · intro ys wx hw hd K hK
            have e3 : ys 3 = _ := hd 3 (by decide)
            simp only [putL, Act.put, List.setIfInBounds_toArray, List.set_cons_zero, List.set_cons_succ, Nat.zero_add, Nat.reduceAdd, e3] at hK ⊢
            rw [if_neg (by exact Bool.false_ne_true)]
            exact hK _ _ (Below.refl _ _) rfl
          · intro ys wx hw hd K hK
            have e3 : ys 3 = _ := hd 3 (by decide)
            simp only [putL, Act.put, List.setIfInBounds_toArray, List.set_cons_zero, List.set_cons_succ, Nat.zero_add, Nat.reduceAdd, e3] at hK ⊢
            rw [if_neg (by exact Bool.false_ne_true)]
            exact hK _ _ (Below.refl _ _) rfl
          · intro ys wx hw hd K hK
            have e3 : ys 3 = _ := hd 3 (by decide)
            have e4 : ys 4 = _ := hd 4 (by decide)
            have e5 : ys 5 = _ := hd 5 (by decide)
            simp only [putL, Act.put, List.setIfInBounds_toArray, List.set_cons_zero, List.set_cons_succ, Nat.zero_add, Nat.reduceAdd, e3, e4, e5] at hK ⊢
            rw [if_neg (by exact Bool.false_ne_true)]
            exact hK _ _ (Below.refl _ _) rfl
          · intro ys wx hw hd K hK
            have e3 : ys 3 = _ := hd 3 (by decide)
            simp only [putL, Act.put, List.setIfInBounds_toArray, List.set_cons_zero, List.set_cons_succ, Nat.zero_add, Nat.reduceAdd, e3] at hK ⊢
            rw [if_neg (by exact Bool.false_ne_true)]
            exact hK _ _ (Below.refl _ _) rfl
          · intro ys wx hw hd K hK
            have e3 : ys 3 = _ := hd 3 (by decide)
            simp only [putL, Act.put, List.setIfInBounds_toArray, List.set_cons_zero, List.set_cons_succ, Nat.zero_add, Nat.reduceAdd, e3] at hK ⊢
            rw [if_neg (by exact Bool.false_ne_true)]
            exact hK _ _ (Below.refl _ _) rfl
          · intro ys wx hw hd K hK
            have e3 : ys 3 = _ := hd 3 (by decide)
            have e7 : ys 7 = _ := hd 7 (by decide)
            have e8 : ys 8 = _ := hd 8 (by decide)
            simp only [putL, Act.put, List.setIfInBounds_toArray, List.set_cons_zero, List.set_cons_succ, Nat.zero_add, Nat.reduceAdd, e3, e7, e8] at hK ⊢
            rw [if_neg (by exact Bool.false_ne_true)]
            exact hK _ _ (Below.refl _ _) rfl
          · intro ys wx hw hd K hK
            have e3 : ys 3 = _ := hd 3 (by decide)
            have e6 : ys 6 = _ := hd 6 (by decide)
            have e9 : ys 9 = _ := hd 9 (by decide)
            simp only [putL, Act.put, List.setIfInBounds_toArray, List.set_cons_zero, List.set_cons_succ, Nat.zero_add, Nat.reduceAdd, e3, e6, e9] at hK ⊢
            rw [if_neg (by exact Bool.false_ne_true)]
            exact hK _ _ (Below.refl _ _) rfl
          · intro ys wx hw hd K hK
            have e3 : ys 3 = _ := hd 3 (by decide)
            have e10 : ys 10 = _ := hd 10 (by decide)
            simp only [putL, Act.put, List.setIfInBounds_toArray, List.set_cons_zero, List.set_cons_succ, Nat.zero_add, Nat.reduceAdd, e3, e10] at hK ⊢
            rw [if_neg (by exact Bool.false_ne_true)]
            exact hK _ _ (Below.refl _ _) rfl
          · intro ys wx hw hd K hK
            have e3 : ys 3 = _ := hd 3 (by decide)
            have e11 : ys 11 = _ := hd 11 (by decide)
            simp only [putL, Act.put, List.setIfInBounds_toArray, List.set_cons_zero, List.set_cons_succ, Nat.zero_add, Nat.reduceAdd, e3, e11] at hK ⊢
            rw [if_pos (by rfl)]
            go_simp
            exact hK _ _ (Below.refl _ _) rfl
        · intro ys w' hl' hV
          have e12 : ys 12 = _ := hV 12 (by decide)
          clear hV
          simp only [putL, Act.put, List.setIfInBounds_toArray, List.set_cons_zero, List.set_cons_succ, Nat.zero_add, Nat.reduceAdd, e12]
          clear e12
          have hbx := HLW.out.trans (hl'.mono HLW.out.size)
          clear hl'
          go_wp2
          go_roundw
          case rel => exact ⟨k + 1, by omega, by go_num, hbx⟩
          case measure => simp [intOf]; omega
      · have HK := Lib.hid (HC.out k hlt hks)
        go_wp2_with fail
        refine region_list [Cv (.int .i64 k), Cv (.int .i64 s), Cv (.bool true), Cv (.bool true), Cv (.agg #[.slice (some ⟨bX, oX, none⟩) 4 cX, .slice AX 0 dX]), Cv (.int .i64 k), Rv RdBB (cellsA x.disks k), Cv (.agg #[.slice (some ⟨bA, oA, none⟩) 4 cA, .slice AA 0 dA]), Cv (.int .i64 k), Rv RdBB (cellsA a.disks k), Cv (.bool true), Cv (.bool false), Cv (.bool false)] (by kernel_rfl) (by kernel_rfl) (by kernel_rfl) ?_ ?_ ?_
        · repeat (first | exact trivial | refine ⟨mC _, ?_⟩ | refine ⟨mR okB _, ?_⟩ | refine ⟨mT, ?_⟩ | refine ⟨mR okBB _, ?_⟩ | refine ⟨mR okBBB _, ?_⟩ | refine ⟨mKt _, ?_⟩ | refine ⟨mRa _ _, ?_⟩)
        · simp only [StepsL]
          refine ⟨?_, ?_, ?_, ?_, ?_, ?_, ?_, ?_, ?_, ?_, ?_, ?_, ?_, trivial⟩
          · intro ys wx hw hd K hK
            simp only [putL, Act.put, List.setIfInBounds_toArray, List.set_cons_zero, List.set_cons_succ, Nat.zero_add, Nat.reduceAdd] at hK ⊢
            rw [if_pos (by rfl)]
            go_simp
            exact hK _ _ (Below.refl _ _) rfl
          · intro ys wx hw hd K hK
            simp only [putL, Act.put, List.setIfInBounds_toArray, List.set_cons_zero, List.set_cons_succ, Nat.zero_add, Nat.reduceAdd] at hK ⊢
            rw [if_pos (by rfl)]
            go_simp
            exact hK _ _ (Below.refl _ _) rfl
          · intro ys wx hw hd K hK
            have e0 : ys 0 = _ := hd 0 (by decide)
            have e1 : ys 1 = _ := hd 1 (by decide)
            simp only [putL, Act.put, List.setIfInBounds_toArray, List.set_cons_zero, List.set_cons_succ, Nat.zero_add, Nat.reduceAdd, e0, e1] at hK ⊢
            rw [if_pos (by rfl)]
            have q : ((k : Int) != s) = true := by simpa using hks
            go_simp
            exact hK _ _ (Below.refl _ _) rfl
          · intro ys wx hw hd K hK
            have e2 : ys 2 = _ := hd 2 (by decide)
            simp only [putL, Act.put, List.setIfInBounds_toArray, List.set_cons_zero, List.set_cons_succ, Nat.zero_add, Nat.reduceAdd, e2] at hK ⊢
            rw [if_pos (by rfl)]
            go_simp
            exact hK _ _ (Below.refl _ _) rfl
          · intro ys wx hw hd K hK
            have e3 : ys 3 = _ := hd 3 (by decide)
            simp only [putL, Act.put, List.setIfInBounds_toArray, List.set_cons_zero, List.set_cons_succ, Nat.zero_add, Nat.reduceAdd, e3] at hK ⊢
            rw [if_pos (by rfl)]
            obtain ⟨kb0, kb1, _⟩ := ((HBxX.out.grow HLW.out).grow hw).two
            go_simp
            exact hK _ _ (Below.refl _ _) rfl
          · intro ys wx hw hd K hK
            have e3 : ys 3 = _ := hd 3 (by decide)
            simp only [putL, Act.put, List.setIfInBounds_toArray, List.set_cons_zero, List.set_cons_succ, Nat.zero_add, Nat.reduceAdd, e3] at hK ⊢
            rw [if_pos (by rfl)]
            go_simp
            exact hK _ _ (Below.refl _ _) rfl
          · intro ys wx hw hd K hK
            have e3 : ys 3 = _ := hd 3 (by decide)
            have e4 : ys 4 = _ := hd 4 (by decide)
            have e5 : ys 5 = _ := hd 5 (by decide)
            simp only [putL, Act.put, List.setIfInBounds_toArray, List.set_cons_zero, List.set_cons_succ, Nat.zero_add, Nat.reduceAdd, e3, e4, e5] at hK ⊢
            rw [if_pos (by rfl)]
            go_simp
            refine (ref_Cells x k _ _ _ ((HRdX.out.grow HLW.out).grow hw) HSX.out.1 hlt).mono ?_
            rintro e w' ⟨v', rfl, hv', hb'⟩
            exact hK _ _ hb' (hv'.toRd_ okB)
          · intro ys wx hw hd K hK
            have e3 : ys 3 = _ := hd 3 (by decide)
            simp only [putL, Act.put, List.setIfInBounds_toArray, List.set_cons_zero, List.set_cons_succ, Nat.zero_add, Nat.reduceAdd, e3] at hK ⊢
            rw [if_pos (by rfl)]
            obtain ⟨kb0, kb1, _⟩ := ((HBxA.out.grow HLW.out).grow hw).two
            go_simp
            exact hK _ _ (Below.refl _ _) rfl
          · intro ys wx hw hd K hK
            have e3 : ys 3 = _ := hd 3 (by decide)
            simp only [putL, Act.put, List.setIfInBounds_toArray, List.set_cons_zero, List.set_cons_succ, Nat.zero_add, Nat.reduceAdd, e3] at hK ⊢
            rw [if_pos (by rfl)]
            go_simp
            exact hK _ _ (Below.refl _ _) rfl
          · intro ys wx hw hd K hK
            have e3 : ys 3 = _ := hd 3 (by decide)
            have e7 : ys 7 = _ := hd 7 (by decide)
            have e8 : ys 8 = _ := hd 8 (by decide)
            simp only [putL, Act.put, List.setIfInBounds_toArray, List.set_cons_zero, List.set_cons_succ, Nat.zero_add, Nat.reduceAdd, e3, e7, e8] at hK ⊢
            rw [if_pos (by rfl)]
            go_simp
            refine (ref_Cells a k _ _ _ ((HRdA.out.grow HLW.out).grow hw) HSN.out.1 hlt).mono ?_
            rintro e w' ⟨v', rfl, hv', hb'⟩
            exact hK _ _ hb' (hv'.toRd_ okB)
          · intro ys wx hw hd K hK
            have e3 : ys 3 = _ := hd 3 (by decide)
            have k6 := hd 6 (by decide)
            change (Rv RdBB (cellsA x.disks k)) wx (ys 6) at k6
            have k9 := hd 9 (by decide)
            change (Rv RdBB (cellsA a.disks k)) wx (ys 9) at k9
            simp only [putL, Act.put, List.setIfInBounds_toArray, List.set_cons_zero, List.set_cons_succ, Nat.zero_add, Nat.reduceAdd, e3] at hK ⊢
            rw [if_pos (by rfl)]
            go_simp
            refine (ref_SameBytes _ _ _ _ _ _ k6 k9).mono ?_
            rintro e w' ⟨rfl, hb'⟩
            exact hK _ _ hb' (by rw [HK.out, beq_self_eq_true]; rfl)
          · intro ys wx hw hd K hK
            have e3 : ys 3 = _ := hd 3 (by decide)
            have e10 : ys 10 = _ := hd 10 (by decide)
            simp only [putL, Act.put, List.setIfInBounds_toArray, List.set_cons_zero, List.set_cons_succ, Nat.zero_add, Nat.reduceAdd, e3, e10] at hK ⊢
            rw [if_pos (by rfl)]
            go_simp
            exact hK _ _ (Below.refl _ _) rfl
          · intro ys wx hw hd K hK
            have e3 : ys 3 = _ := hd 3 (by decide)
            have e11 : ys 11 = _ := hd 11 (by decide)
            simp only [putL, Act.put, List.setIfInBounds_toArray, List.set_cons_zero, List.set_cons_succ, Nat.zero_add, Nat.reduceAdd, e3, e11] at hK ⊢
            rw [if_pos (by rfl)]
            go_simp
            exact hK _ _ (Below.refl _ _) rfl
        · intro ys w' hl' hV
          have e12 : ys 12 = _ := hV 12 (by decide)
          clear hV
          simp only [putL, Act.put, List.setIfInBounds_toArray, List.set_cons_zero, List.set_cons_succ, Nat.zero_add, Nat.reduceAdd, e12]
          clear e12
          have hbx := HLW.out.trans (hl'.mono HLW.out.size)
          clear hl'
          go_wp2
          go_roundw
          case rel => exact ⟨k + 1, by omega, by go_num, hbx⟩
          case measure => simp [intOf]; omega
    · obtain rfl : k = 3 := by omega
      have hbe := HBel.out.trans (HLW.out.mono HBel.out.size)
      clear hlw
      go_wp2
      go_ret
      exact ⟨rfl, hbe⟩
namespace mendOnlyDone
open Go.ChangeShapes Go.WideShapes Go.ChangeAt Go.RowKit M
open Go.ChangeMaps (open_string shut_string)
set_option linter.unusedVariables false
set_option maxRecDepth 100000 in
theorem lifted (os : Os) (started : os.Started) (H : Type) (enc : TypeId × Value → H) :
    ReturnsInHanded {} Try.checked os 14 .any (Rows.mendOnlySpec.pre6 enc Try.prog Try.f14 Rows.mendOnlyRow.domain false) (Rows.mendOnlySpec.post enc Try.prog Try.f14 false true false false) := by
  refine returnsInHanded_of_change (C := Try.checked) own started (by kernel_rfl) Try.func14
    (ChangeSpec.witness6 (enc := enc) (C := Try.checked) false ⟨#[], #[.slice none 0 0, .int .i64 0], []⟩ 8 (by kernel_rfl) (by kernel_rfl) (by kernel_rfl) (by kernel_rfl)) ?_
  intro W base args ds gs before hval0 hW hcnd _
  have hval : ∀ (j : Nat) t v, Try.f14.params[j]? = some t → args[j]? = some v → Value.okWide Try.prog W .any base t v := hval0
  have hW' := hW
  obtain ⟨p, q, hA0, hV, rfl, hfz, hnd⟩ := hW
  have hA : DataW.TrodAll enc Try.prog W 0 (fun _ => true) true Try.f14.params.toList args.toList ds p := hA0
  rw [Try.params14] at hA hval
  obtain ⟨v0, vs0, d0, ds0, p0, q0, hargs, rfl, rfl, h0, r0⟩ := trodAll_cons hA
  obtain ⟨v1, vs1, d1, ds1, p1, q1, rfl, rfl, rfl, h1, r1⟩ := trodAll_cons r0
  obtain ⟨rfl, rfl, rfl⟩ := trodAll_nil r1
  obtain rfl : args = #[v0, v1] := by cases args; simp_all
  obtain ⟨rfl, rfl⟩ := trodVars_none hV
  obtain ⟨a0, len0, cap0, rfl⟩ := okWide_slice Try.underlying37 (hval 0 37 v0 rfl rfl)
  have k0 := h0
  have lt0 : ∀ x ∈ p0, x.block < W.heap.size := by obtain ⟨m, hm⟩ := k0; exact DataW.trod_lt m _ _ _ hm
  obtain ⟨fuel0, hf0⟩ := h0
  obtain ⟨b0, w0, l0⟩ := open_steps hf0
  obtain ⟨a1, rfl, rfl, rfl, w1⟩ := open_int Try.underlying3 (hval 1 3 v1 rfl rfl) h1
  have b1 := bounds_i64 w1
  clear hA0 hval0
  refine (mendOnly_walk b0 _ a1 W w0 b1.1 b1.2).mono fun e W' ⟨he, bel⟩ => ?_
  subst he
  exact ⟨_, rfl, _, _, _, [], _, [], hW', trodAll_mk1 (shut_bool Try.underlying4 _), (trodAll_cons_mk (Below.trod laidOut (by kernel_rfl) (of_decide_eq_true (by kernel_rfl)) k0 bel lt0) (trodAll_cons_mk (shut_int Try.underlying3 w1) trodAll_mk0)), rfl, bel.frame _, fun h => by cases h⟩
theorem over : Rows.mendOnlyRow.holds Try.pinned (OpenSpec.ofChange Rows.mendOnlySpec) :=
  OpenClaim.holds_of_wide 14 Try.f14 rfl rfl rfl rfl rfl rfl rfl ⟨rfl, rfl, rfl, rfl, rfl⟩ rfl rfl rfl rfl rfl (by kernel_rfl) Try.func14 (by kernel_rfl)
    (of_decide_eq_true (by kernel_rfl)) (by unfold Func.isWrapper; first | (rw [if_pos (by decide +kernel)]; kernel_rfl) | (rw [if_neg (by decide +kernel)]; exact ⟨rfl, rfl⟩))
    (fun os started H enc _ => lifted os started H enc)
/-- The statement. -/
theorem proved : Rows.MendOnlySaid := over
end mendOnlyDone
end Go.Proofs.Ytlbnkoahkfhimaa

/- Chapter 9: MendTells holds for every input: the call returns true, and each argument reads behind it as it read before. -/
import Derived.Test.YtlbnkoahkfhimaaOpen3
import Derived.Test.YtlbnkoahkfhimaaL9
namespace Go.Proofs.Ytlbnkoahkfhimaa
set_option linter.unusedVariables false
open Go Go.RowKit M
set_option maxRecDepth 100000 in
set_option maxHeartbeats 3200000 in
theorem mendTells_walk (l : List Step) (vl : Value) (s : Int) (w : World) (hl : RdSts w (fun _ => True) vl l) (_ : -9223372036854775808 ≤ s) (_ : s ≤ 9223372036854775807) :
    Calls Try.prog 12 #[vl, .int .i64 s] w fun e w' => e = .returned (.bool true) ∧ Below w.heap.size w w' := by
  obtain ⟨Ast, cst, rfl, _, _⟩ := id hl
  have HL := Lib.hid hl
  have HBel := Lib.hid (Below.refl w.heap.size w)
  clear hl
  go_enter Try.func12, Try.ntmps12
  go_wp2_with fail
  refine (ref_Play l _ _ _ HL.out).mono ?_
  rintro e waA ⟨vA, uu, rfl, hr, hu, hb⟩
  obtain ⟨bA, oA, cA, AA, dA, rfl, _, _, hcA, hmA⟩ := RdA_open hr (playTo_good l 100).1
  rw [show (playA l).ints.length = 0 by rw [show (playA l).ints = [] from (playTo_good l 100).2]; rfl] at hr ⊢
  have ord0A : w.heap.size ≤ waA.heap.size := Nat.le_trans HBel.out.size hb.size
  have hal := below_alloc waA (.cells #[.slice (some ⟨bA, oA, none⟩) 4 cA, .slice AA 0 dA] 41)
  have hX := boxAt_new waA 41 [.slice (some ⟨bA, oA, none⟩) 4 cA, .slice AA 0 dA]
  have hbb := hb.trans (hal.mono hb.size)
  have hrl := hr.lt.mono (F' := fun k => w.heap.size ≤ k ∧ k < waA.heap.size) fun k hk => by have := HBel.out.size;  omega
  have HRdA := Lib.hid (hrl.grow hal)
  replace HBel := Lib.hid (HBel.out.trans (hbb.mono HBel.out.size))
  obtain ⟨wA, hwA⟩ : ∃ x, waA.alloc (.cells #[.slice (some ⟨bA, oA, none⟩) 4 cA, .slice AA 0 dA] 41) = x := ⟨_, rfl⟩
  change BoxAt (waA.alloc (.cells #[.slice (some ⟨bA, oA, none⟩) 4 cA, .slice AA 0 dA] 41)) _ _ _ at hX
  rw [hwA] at hX HRdA HBel   
  have HBxA := Lib.hid hX
  clear hal hX hbb hr hb hrl
  obtain ⟨pA0, pA1, pA2, pA3⟩ := HBxA.out.two
  go_wp2_with fail
  clear hwA
  obtain ⟨hsh, hno⟩ := playTo_good l 100
  change Shape (playA l).disks at hsh
  change (playA l).ints = [] at hno
  generalize playA l = a at *
  have HSN := Lib.hid (And.intro hsh hno)
  have HSX := Lib.hid (And.intro (mend_shape hsh s) (mend_ints hno s))
  clear hsh hno
  refine (mend_Stripe a s _ _ _ HRdA.out HSN.out.1 HSN.out.2).mono ?_
  rintro e waX ⟨vX, rfl, hr, hb⟩
  obtain ⟨bX, oX, cX, AX, dX, rfl, _, _, hcX, hmX⟩ := RdA_open hr HSX.out.1
  rw [show (mendA a s).1.ints.length = 0 by rw [HSX.out.2]; rfl] at hr ⊢
  have ord0X : w.heap.size ≤ waX.heap.size := Nat.le_trans HBel.out.size hb.size
  have ordAX : waA.heap.size < waX.heap.size := Nat.lt_of_lt_of_le HBxA.out.lt hb.size
  have hal := below_alloc waX (.cells #[.slice (some ⟨bX, oX, none⟩) 4 cX, .slice AX 0 dX] 41)
  have hX := boxAt_new waX 41 [.slice (some ⟨bX, oX, none⟩) 4 cX, .slice AX 0 dX]
  have hbb := hb.trans (hal.mono hb.size)
  have hrl := hr.lt.mono (F' := fun k => waA.heap.size < k ∧ k < waX.heap.size) fun k hk => by have := HBel.out.size; have := HBxA.out.lt; omega
  have HRdX := Lib.hid (hrl.grow hal)
  replace HBxA := Lib.hid (HBxA.out.grow hbb)
  replace HRdA := Lib.hid (HRdA.out.grow hbb)
  replace HBel := Lib.hid (HBel.out.trans (hbb.mono HBel.out.size))
  clear pA0 pA1 pA2 pA3
  obtain ⟨wX, hwX⟩ : ∃ x, waX.alloc (.cells #[.slice (some ⟨bX, oX, none⟩) 4 cX, .slice AX 0 dX] 41) = x := ⟨_, rfl⟩
  change BoxAt (waX.alloc (.cells #[.slice (some ⟨bX, oX, none⟩) 4 cX, .slice AX 0 dX] 41)) _ _ _ at hX
  rw [hwX] at hX HRdX HBel HBxA HRdA 
  have HBxX := Lib.hid hX
  clear hal hX hbb hr hb hrl
  obtain ⟨pA0, pA1, pA2, pA3⟩ := HBxA.out.two
  obtain ⟨pX0, pX1, pX2, pX3⟩ := HBxX.out.two
  go_wp2_with fail
  clear hwX
  refine (ref_Mend a s _ _ _ HRdA.out HSN.out.1).mono ?_
  rintro e waY ⟨vY, rfl, hr, hb⟩
  obtain ⟨bY, oY, cY, AY, dY, rfl, _, _, hcY, hmY⟩ := RdA_open hr HSX.out.1
  rw [show (mendA a s).1.ints.length = 0 by rw [HSX.out.2]; rfl] at hr ⊢
  have ord0Y : w.heap.size ≤ waY.heap.size := Nat.le_trans HBel.out.size hb.size
  have ordAY : waA.heap.size < waY.heap.size := Nat.lt_of_lt_of_le HBxA.out.lt hb.size
  have ordXY : waX.heap.size < waY.heap.size := Nat.lt_of_lt_of_le HBxX.out.lt hb.size
  have hal := below_alloc waY (.cells #[.slice (some ⟨bY, oY, none⟩) 4 cY, .slice AY 0 dY] 41)
  have hX := boxAt_new waY 41 [.slice (some ⟨bY, oY, none⟩) 4 cY, .slice AY 0 dY]
  have hbb := hb.trans (hal.mono hb.size)
  have hrl := hr.lt.mono (F' := fun k => k < waA.heap.size ∨ waX.heap.size < k ∧ k < waY.heap.size) fun k hk => by have := HBel.out.size; have := HBxA.out.lt; have := HBxX.out.lt; omega
  have HRdY := Lib.hid (hrl.grow hal)
  replace HBxA := Lib.hid (HBxA.out.grow hbb)
  replace HBxX := Lib.hid (HBxX.out.grow hbb)
  replace HRdA := Lib.hid (HRdA.out.grow hbb)
  replace HRdX := Lib.hid (HRdX.out.grow hbb)
  replace HBel := Lib.hid (HBel.out.trans (hbb.mono HBel.out.size))
  clear pA0 pA1 pA2 pA3 pX0 pX1 pX2 pX3
  obtain ⟨wY, hwY⟩ : ∃ x, waY.alloc (.cells #[.slice (some ⟨bY, oY, none⟩) 4 cY, .slice AY 0 dY] 41) = x := ⟨_, rfl⟩
  change BoxAt (waY.alloc (.cells #[.slice (some ⟨bY, oY, none⟩) 4 cY, .slice AY 0 dY] 41)) _ _ _ at hX
  rw [hwY] at hX HRdY HBel HBxA HBxX HRdA HRdX 
  have HBxY := Lib.hid hX
  clear hal hX hbb hr hb hrl
  obtain ⟨pA0, pA1, pA2, pA3⟩ := HBxA.out.two
  obtain ⟨pX0, pX1, pX2, pX3⟩ := HBxX.out.two
  obtain ⟨pY0, pY1, pY2, pY3⟩ := HBxY.out.two
  generalize (mendA a s).1 = x at *
  generalize (mendA a s).2.1 = n at *
  generalize (mendA a s).2.2 = er at *
  go_wp2_with fail
  clear hwY
  clear pA0 pA1 pA2 pA3 pX0 pX1 pX2 pX3 pY0 pY1 pY2 pY3
  refine region_list [Cv (.int .i64 er), Cv (.int .i64 er), Cv (.bool false), Cv (.bool false), Cv (.int .i64 n), Cv (.int .i64 n), Cv (.bool false), Cv (.bool false), Cv (.bool false), Cv (.agg #[.slice (some ⟨bX, oX, none⟩) 4 cX, .slice AX 0 dX]), Cv (.agg #[.slice (some ⟨bY, oY, none⟩) 4 cY, .slice AY 0 dY]), Cv (.bool true), Cv (.bool false), Cv (.bool false), Cv (.bool false), Cv (.agg #[.slice (some ⟨bA, oA, none⟩) 4 cA, .slice AA 0 dA]), Cv (.int .i64 ((worstA a.disks : Nat) : Int)), Cv (.agg #[.slice (some ⟨bA, oA, none⟩) 4 cA, .slice AA 0 dA]), Cv (.int .i64 ((worstA a.disks : Nat) : Int)), Cv (.bool false), Cv (.bool false)] (by kernel_rfl) (by kernel_rfl) (by kernel_rfl) ?_ ?_ ?_
  · repeat (first | exact trivial | refine ⟨mC _, ?_⟩ | refine ⟨mR okB _, ?_⟩ | refine ⟨mT, ?_⟩ | refine ⟨mR okBB _, ?_⟩ | refine ⟨mR okBBB _, ?_⟩ | refine ⟨mKt _, ?_⟩ | refine ⟨mRa _ _, ?_⟩)
  · simp only [StepsL]
    refine ⟨?_, ?_, ?_, ?_, ?_, ?_, ?_, ?_, ?_, ?_, ?_, ?_, ?_, ?_, ?_, ?_, ?_, ?_, ?_, ?_, ?_, trivial⟩
    · intro ys wx hw hd K hK
      simp only [putL, Act.put, List.setIfInBounds_toArray, List.set_cons_zero, List.set_cons_succ, Nat.zero_add, Nat.reduceAdd] at hK ⊢
      rw [if_pos (by rfl)]
      go_simp
      exact hK _ _ (Below.refl _ _) rfl
    · intro ys wx hw hd K hK
      simp only [putL, Act.put, List.setIfInBounds_toArray, List.set_cons_zero, List.set_cons_succ, Nat.zero_add, Nat.reduceAdd] at hK ⊢
      rw [if_pos (by rfl)]
      go_simp
      exact hK _ _ (Below.refl _ _) rfl
    · intro ys wx hw hd K hK
      have e0 : ys 0 = _ := hd 0 (by decide)
      have e1 : ys 1 = _ := hd 1 (by decide)
      simp only [putL, Act.put, List.setIfInBounds_toArray, List.set_cons_zero, List.set_cons_succ, Nat.zero_add, Nat.reduceAdd, e0, e1] at hK ⊢
      rw [if_pos (by rfl)]
      go_simp
      exact hK _ _ (Below.refl _ _) rfl
    · intro ys wx hw hd K hK
      have e2 : ys 2 = _ := hd 2 (by decide)
      simp only [putL, Act.put, List.setIfInBounds_toArray, List.set_cons_zero, List.set_cons_succ, Nat.zero_add, Nat.reduceAdd, e2] at hK ⊢
      rw [if_pos (by rfl)]
      go_simp
      exact hK _ _ (Below.refl _ _) rfl
    · intro ys wx hw hd K hK
      have e3 : ys 3 = _ := hd 3 (by decide)
      simp only [putL, Act.put, List.setIfInBounds_toArray, List.set_cons_zero, List.set_cons_succ, Nat.zero_add, Nat.reduceAdd, e3] at hK ⊢
      rw [if_pos (by rfl)]
      go_simp
      exact hK _ _ (Below.refl _ _) rfl
    · intro ys wx hw hd K hK
      have e3 : ys 3 = _ := hd 3 (by decide)
      simp only [putL, Act.put, List.setIfInBounds_toArray, List.set_cons_zero, List.set_cons_succ, Nat.zero_add, Nat.reduceAdd, e3] at hK ⊢
      rw [if_pos (by rfl)]
      go_simp
      exact hK _ _ (Below.refl _ _) rfl
    · intro ys wx hw hd K hK
      have e3 : ys 3 = _ := hd 3 (by decide)
      have e4 : ys 4 = _ := hd 4 (by decide)
      have e5 : ys 5 = _ := hd 5 (by decide)
      simp only [putL, Act.put, List.setIfInBounds_toArray, List.set_cons_zero, List.set_cons_succ, Nat.zero_add, Nat.reduceAdd, e3, e4, e5] at hK ⊢
      rw [if_pos (by rfl)]
      go_simp
      exact hK _ _ (Below.refl _ _) rfl
    · intro ys wx hw hd K hK
      have e3 : ys 3 = _ := hd 3 (by decide)
      have e6 : ys 6 = _ := hd 6 (by decide)
      simp only [putL, Act.put, List.setIfInBounds_toArray, List.set_cons_zero, List.set_cons_succ, Nat.zero_add, Nat.reduceAdd, e3, e6] at hK ⊢
      rw [if_pos (by rfl)]
      go_simp
      exact hK _ _ (Below.refl _ _) rfl
    · intro ys wx hw hd K hK
      have e7 : ys 7 = _ := hd 7 (by decide)
      simp only [putL, Act.put, List.setIfInBounds_toArray, List.set_cons_zero, List.set_cons_succ, Nat.zero_add, Nat.reduceAdd, e7] at hK ⊢
      rw [if_pos (by rfl)]
      go_simp
      exact hK _ _ (Below.refl _ _) rfl
    · intro ys wx hw hd K hK
      have e8 : ys 8 = _ := hd 8 (by decide)
      simp only [putL, Act.put, List.setIfInBounds_toArray, List.set_cons_zero, List.set_cons_succ, Nat.zero_add, Nat.reduceAdd, e8] at hK ⊢
      rw [if_pos (by rfl)]
      obtain ⟨kb0, kb1, _⟩ := (HBxX.out.grow hw).two
      go_simp
      exact hK _ _ (Below.refl _ _) rfl
    · intro ys wx hw hd K hK
      have e8 : ys 8 = _ := hd 8 (by decide)
      simp only [putL, Act.put, List.setIfInBounds_toArray, List.set_cons_zero, List.set_cons_succ, Nat.zero_add, Nat.reduceAdd, e8] at hK ⊢
      rw [if_pos (by rfl)]
      obtain ⟨kb0, kb1, _⟩ := (HBxY.out.grow hw).two
      go_simp
      exact hK _ _ (Below.refl _ _) rfl
    · intro ys wx hw hd K hK
      have e8 : ys 8 = _ := hd 8 (by decide)
      have e9 : ys 9 = _ := hd 9 (by decide)
      have e10 : ys 10 = _ := hd 10 (by decide)
      simp only [putL, Act.put, List.setIfInBounds_toArray, List.set_cons_zero, List.set_cons_succ, Nat.zero_add, Nat.reduceAdd, e8, e9, e10] at hK ⊢
      rw [if_pos (by rfl)]
      go_simp
      refine (ref_Same _ _ _ _ _ _ _ (HRdX.out.grow hw) (HRdY.out.grow hw) HSX.out.1 HSX.out.1 HSX.out.2 HSX.out.2).mono ?_
      rintro e w' ⟨rfl, hb'⟩
      exact hK _ _ hb' (by rw [beq_self_eq_true]; rfl)
    · intro ys wx hw hd K hK
      have e8 : ys 8 = _ := hd 8 (by decide)
      have e11 : ys 11 = _ := hd 11 (by decide)
      simp only [putL, Act.put, List.setIfInBounds_toArray, List.set_cons_zero, List.set_cons_succ, Nat.zero_add, Nat.reduceAdd, e8, e11] at hK ⊢
      rw [if_pos (by rfl)]
      go_simp
      exact hK _ _ (Below.refl _ _) rfl
    · intro ys wx hw hd K hK
      have e8 : ys 8 = _ := hd 8 (by decide)
      have e12 : ys 12 = _ := hd 12 (by decide)
      simp only [putL, Act.put, List.setIfInBounds_toArray, List.set_cons_zero, List.set_cons_succ, Nat.zero_add, Nat.reduceAdd, e8, e12] at hK ⊢
      rw [if_pos (by rfl)]
      go_simp
      exact hK _ _ (Below.refl _ _) rfl
    · intro ys wx hw hd K hK
      have e13 : ys 13 = _ := hd 13 (by decide)
      simp only [putL, Act.put, List.setIfInBounds_toArray, List.set_cons_zero, List.set_cons_succ, Nat.zero_add, Nat.reduceAdd, e13] at hK ⊢
      rw [if_pos (by rfl)]
      go_simp
      exact hK _ _ (Below.refl _ _) rfl
    · intro ys wx hw hd K hK
      have e14 : ys 14 = _ := hd 14 (by decide)
      simp only [putL, Act.put, List.setIfInBounds_toArray, List.set_cons_zero, List.set_cons_succ, Nat.zero_add, Nat.reduceAdd, e14] at hK ⊢
      rw [if_pos (by rfl)]
      obtain ⟨kb0, kb1, _⟩ := (HBxA.out.grow hw).two
      go_simp
      exact hK _ _ (Below.refl _ _) rfl
    · intro ys wx hw hd K hK
      have e14 : ys 14 = _ := hd 14 (by decide)
      have e15 : ys 15 = _ := hd 15 (by decide)
      simp only [putL, Act.put, List.setIfInBounds_toArray, List.set_cons_zero, List.set_cons_succ, Nat.zero_add, Nat.reduceAdd, e14, e15] at hK ⊢
      rw [if_pos (by rfl)]
      go_simp
      refine (mend_Worst a _ _ _ (HRdA.out.grow hw) HSN.out.1).mono ?_
      rintro e w' ⟨rfl, hb'⟩
      exact hK _ _ hb' rfl
    · intro ys wx hw hd K hK
      have e14 : ys 14 = _ := hd 14 (by decide)
      simp only [putL, Act.put, List.setIfInBounds_toArray, List.set_cons_zero, List.set_cons_succ, Nat.zero_add, Nat.reduceAdd, e14] at hK ⊢
      rw [if_pos (by rfl)]
      obtain ⟨kb0, kb1, _⟩ := (HBxA.out.grow hw).two
      go_simp
      exact hK _ _ (Below.refl _ _) rfl
    · intro ys wx hw hd K hK
      have e14 : ys 14 = _ := hd 14 (by decide)
      have e17 : ys 17 = _ := hd 17 (by decide)
      simp only [putL, Act.put, List.setIfInBounds_toArray, List.set_cons_zero, List.set_cons_succ, Nat.zero_add, Nat.reduceAdd, e14, e17] at hK ⊢
      rw [if_pos (by rfl)]
      go_simp
      refine (ref_Worst a _ _ _ (HRdA.out.grow hw) HSN.out.1).mono ?_
      rintro e w' ⟨rfl, hb'⟩
      exact hK _ _ hb' rfl
    · intro ys wx hw hd K hK
      have e14 : ys 14 = _ := hd 14 (by decide)
      have e16 : ys 16 = _ := hd 16 (by decide)
      have e18 : ys 18 = _ := hd 18 (by decide)
      simp only [putL, Act.put, List.setIfInBounds_toArray, List.set_cons_zero, List.set_cons_succ, Nat.zero_add, Nat.reduceAdd, e14, e16, e18] at hK ⊢
      rw [if_pos (by rfl)]
      go_simp
      exact hK _ _ (Below.refl _ _) rfl
    · intro ys wx hw hd K hK
      have e14 : ys 14 = _ := hd 14 (by decide)
      have e19 : ys 19 = _ := hd 19 (by decide)
      simp only [putL, Act.put, List.setIfInBounds_toArray, List.set_cons_zero, List.set_cons_succ, Nat.zero_add, Nat.reduceAdd, e14, e19] at hK ⊢
      rw [if_pos (by rfl)]
      go_simp
      exact hK _ _ (Below.refl _ _) rfl
  · intro ys w' hl' hV
    have e20 : ys 20 = _ := hV 20 (by decide)
    clear hV
    simp only [putL, Act.put, List.setIfInBounds_toArray, List.set_cons_zero, List.set_cons_succ, Nat.zero_add, Nat.reduceAdd, e20]
    clear e20
    replace HBxA := Lib.hid (HBxA.out.grow hl')
    replace HBxX := Lib.hid (HBxX.out.grow hl')
    replace HBxY := Lib.hid (HBxY.out.grow hl')
    replace HRdA := Lib.hid (HRdA.out.grow hl')
    replace HRdX := Lib.hid (HRdX.out.grow hl')
    replace HRdY := Lib.hid (HRdY.out.grow hl')
    replace HBel := Lib.hid (HBel.out.trans (hl'.mono HBel.out.size))
    clear hl'
    obtain ⟨pA0, pA1, pA2, pA3⟩ := HBxA.out.two
    obtain ⟨pX0, pX1, pX2, pX3⟩ := HBxX.out.two
    obtain ⟨pY0, pY1, pY2, pY3⟩ := HBxY.out.two
    go_wp2_with fail
    have hsA0 := HBxA.out.lt
    refine (mend_All a _ _ _ HRdA.out HSN.out.1 HSN.out.2).mono ?_
    rintro e waU ⟨vU, uU, rfl, hr, hu, hb⟩
    obtain ⟨AnU, cnU, rfl, hcnU, hcnmU⟩ := hu.shape
    rw [mendNs_len] at hu hcnU ⊢
    obtain ⟨bU, oU, cU, AU, dU, rfl, _, _, hcU, hmU⟩ := RdA_open hr (mends_shape HSN.out.1 3)
    rw [show (mendsTo a 3).ints.length = 0 by rw [mends_ints HSN.out.2 3]; rfl] at hr ⊢
    have ord0U : w.heap.size ≤ waU.heap.size := Nat.le_trans HBel.out.size hb.size
    have ordAU : waA.heap.size < waU.heap.size := Nat.lt_of_lt_of_le HBxA.out.lt hb.size
    have ordXU : waX.heap.size < waU.heap.size := Nat.lt_of_lt_of_le HBxX.out.lt hb.size
    have ordYU : waY.heap.size < waU.heap.size := Nat.lt_of_lt_of_le HBxY.out.lt hb.size
    have hal := below_alloc waU (.cells #[.slice (some ⟨bU, oU, none⟩) 4 cU, .slice AU 0 dU] 41)
    have hX := boxAt_new waU 41 [.slice (some ⟨bU, oU, none⟩) 4 cU, .slice AU 0 dU]
    have hbb := hb.trans (hal.mono hb.size)
    have hrl := hr.lt.mono (F' := fun k => k < waA.heap.size ∨ waY.heap.size < k ∧ k < waU.heap.size) fun k hk => by have := HBel.out.size; have := HBxA.out.lt; have := HBxX.out.lt; have := HBxY.out.lt; omega
    have HRdU := Lib.hid (hrl.grow hal)
    replace HBxA := Lib.hid (HBxA.out.grow hbb)
    replace HBxX := Lib.hid (HBxX.out.grow hbb)
    replace HBxY := Lib.hid (HBxY.out.grow hbb)
    replace HRdA := Lib.hid (HRdA.out.grow hbb)
    replace HRdX := Lib.hid (HRdX.out.grow hbb)
    replace HRdY := Lib.hid (HRdY.out.grow hbb)
    replace HBel := Lib.hid (HBel.out.trans (hbb.mono HBel.out.size))
    clear pA0 pA1 pA2 pA3 pX0 pX1 pX2 pX3 pY0 pY1 pY2 pY3
    have HNS := Lib.hid ((okL okI).grow hu hal)
    obtain ⟨wU, hwU⟩ : ∃ x, waU.alloc (.cells #[.slice (some ⟨bU, oU, none⟩) 4 cU, .slice AU 0 dU] 41) = x := ⟨_, rfl⟩
    change BoxAt (waU.alloc (.cells #[.slice (some ⟨bU, oU, none⟩) 4 cU, .slice AU 0 dU] 41)) _ _ _ at hX
    rw [hwU] at hX HRdU HBel HBxA HBxX HBxY HRdA HRdX HRdY  HNS
    have HBxU := Lib.hid hX
    clear hal hX hbb hr hb hrl
    obtain ⟨pA0, pA1, pA2, pA3⟩ := HBxA.out.two
    obtain ⟨pX0, pX1, pX2, pX3⟩ := HBxX.out.two
    obtain ⟨pY0, pY1, pY2, pY3⟩ := HBxY.out.two
    obtain ⟨pU0, pU1, pU2, pU3⟩ := HBxU.out.two
    go_wp2_with fail
    clear hwU
    clear hu
    clear pA0 pA1 pA2 pA3 pX0 pX1 pX2 pX3 pY0 pY1 pY2 pY3 pU0 pU1 pU2 pU3
    unfold maxLen at hcnmU
    have HU := Lib.hid (And.intro HBxU.out (And.intro HRdU.out (And.intro HNS.out HBel.out)))
    have hsU := HBxU.out.lt
    have hsA := HBxA.out.lt
    go_loopw [64] (fun i wr => ∃ k : Nat, k ≤ 3 ∧ i = .int .i64 k ∧ (∃ dv iv, BoxAt wr waA.heap.size 41 [dv, iv] ∧ RdA wr (fun q => q < waA.heap.size ∨ waU.heap.size < q) (.agg #[dv, iv]) (mendsTo a k)) ∧ BoxAt wr waU.heap.size 41 [.slice (some ⟨bU, oU, none⟩) 4 cU, .slice AU 0 dU] ∧ RdA wr (fun q => (q < waA.heap.size ∨ waY.heap.size < q ∧ q < waU.heap.size) ∧ q < wU.heap.size) (.agg #[.slice (some ⟨bU, oU, none⟩) 4 cU, .slice AU 0 dU]) (mendsTo a 3) ∧ RdL RI wr (fun q => waA.heap.size < q ∧ q < wU.heap.size) (.slice AnU 3 cnU) (mendNs a 3) ∧ Below w.heap.size w wr ∧ wU.heap.size ≤ wr.heap.size) (fun i _ => 3 - (intOf i).toNat)
    case atStart => exact ⟨0, Nat.zero_le _, rfl, ⟨_, _, HBxA.out, HRdA.out.mono fun q hq => .inl hq.2⟩, HBxU.out, HRdU.out.lt, (okL okI).mono ((okL okI).lt HNS.out) fun q hq => ⟨by have := hq.1; omega, hq.2⟩, HBel.out, Nat.le_refl _⟩
    case round =>
      obtain ⟨k, hk, rfl, ⟨dv, iv, hA, hR⟩, hUx, hUr, hNs, hB, hsr⟩ := hrel
      have hsk := mends_shape HSN.out.1 k
      have hik := mends_ints HSN.out.2 k
      obtain ⟨b1, o1, c1, A1, c2, hag, _, _, hc11, hc12⟩ := RdA_open hR hsk
      injection hag with hag
      simp only [Array.mk.injEq, List.cons.injEq, and_true] at hag
      obtain ⟨rfl, rfl⟩ := hag
      rw [show (mendsTo a k).ints.length = 0 by rw [hik]; rfl] at hA hR
      have hgU : waU.heap.size < wr.heap.size := by omega
      obtain ⟨x0, x1, x2, x3⟩ := hA.two
      by_cases hlt : k < 3
      rotate_left
      · obtain rfl : k = 3 := by omega
        obtain ⟨u0, u1, u2, u3⟩ := hUx.two
        have HF := Lib.hid (And.intro hR (And.intro hUr hB))
        clear hA hR hUx hUr hNs hB hsk hik
        go_wp2_with fail
        refine (ref_Same _ _ _ _ _ _ _ HF.out.2.1 HF.out.1 (mends_shape HSN.out.1 3) (mends_shape HSN.out.1 3) (mends_ints HSN.out.2 3) (mends_ints HSN.out.2 3)).mono ?_
        rintro e wz ⟨rfl, hb⟩
        rw [beq_self_eq_true]
        have hbe := HF.out.2.2.trans (hb.mono HF.out.2.2.size)
        clear hb
        go_wp2
        go_ret
        exact ⟨rfl, hbe⟩
      have hbk : decide ((k : Int) < 3) = true := by simp; omega
      have hbk3 : decide ((3 : Int) ≤ (k : Int)) = false := by simp; omega
      have hnk : (mendNs a 3)[k]'(by rw [mendNs_len]; exact hlt) = (mendA (mendsTo a k) (k : Nat)).2.1 := by simp [mendNs]
      obtain ⟨bn, on, un, rfl, hbn, hun, hRn⟩ := hNs.at_ (k := k) (by rw [mendNs_len]; exact hlt)
      have hnk0 : (mendNs a 3)[k]? = some (mendA (mendsTo a k) (k : Nat)).2.1 := by rw [← hnk]; exact List.getElem?_eq_getElem _
      rw [hnk] at hRn
      obtain rfl : un = .int .i64 (mendA (mendsTo a k) (k : Nat)).2.1 := hRn
      have H1 := Lib.hid (And.intro hA (And.intro hUx (And.intro hB (And.intro hUr hNs))))
      have HR := Lib.hid (And.intro hR (And.intro hsk hik))
      have HN := Lib.hid (mendsTo_next a k)
      clear hA hR hUx hUr hNs hB hsk hik hnk
      go_wp2_with fail
      refine (ref_Mend (mendsTo a k) k _ _ _ HR.out.1 HR.out.2.1).mono ?_
      rintro e w4 ⟨v4, rfl, hr4, hb4⟩
      rw [← HN.out] at hr4
      have hsh4 := mends_shape HSN.out.1 (k + 1)
      have hi4 := mends_ints HSN.out.2 (k + 1)
      obtain ⟨b3, o3, c3, A3, c4, rfl, _, _, _, _⟩ := RdA_open hr4 hsh4
      rw [show (mendsTo a (k + 1)).ints.length = 0 by rw [hi4]; rfl] at hr4 ⊢
      generalize (mendA (mendsTo a k) (k : Nat)).2.1 = nk at *
      generalize (mendA (mendsTo a k) (k : Nat)).2.2 = ek at *
      have hal4 := below_alloc w4 (.cells #[.slice (some ⟨b3, o3, none⟩) 4 c3, .slice A3 0 c4] 41)
      have hY4 := boxAt_new w4 41 [.slice (some ⟨b3, o3, none⟩) 4 c3, .slice A3 0 c4]
      have hb5 := hb4.trans (hal4.mono hb4.size)
      have hA5 := H1.out.1.grow hb5
      have hU5 := H1.out.2.1.grow hb5
      have hB5 := H1.out.2.2.1.trans (hb5.mono H1.out.2.2.1.size)
      have hUr5 := H1.out.2.2.2.1.grow hb5
      have hNs5 := (okL okI).grow H1.out.2.2.2.2 hb5
      have hr5 := hr4.lt.grow hal4
      have hs4 := hb4.size
      obtain ⟨w5, hw5⟩ : ∃ x, w4.alloc (.cells #[.slice (some ⟨b3, o3, none⟩) 4 c3, .slice A3 0 c4] 41) = x := ⟨_, rfl⟩
      change BoxAt (w4.alloc (.cells #[.slice (some ⟨b3, o3, none⟩) 4 c3, .slice A3 0 c4] 41)) _ _ _ at hY4
      rw [hw5] at hal4 hY4 hA5 hU5 hB5 hUr5 hNs5 hr5
      obtain ⟨p0, p1, p2, p3⟩ := hY4.two
      obtain ⟨q0, q1, q2, q3⟩ := hA5.two
      have hwA : w.heap.size ≤ waA.heap.size := ord0A
      have f1 : BoxAt (set2 w5 waA.heap.size (.slice (some ⟨b3, o3, none⟩) 4 c3) (.slice A3 0 c4)) _ _ _ := hA5.put2
      have f2 : RdA (set2 w5 waA.heap.size (.slice (some ⟨b3, o3, none⟩) 4 c3) (.slice A3 0 c4)) _ _ _ := hr5.set2 (b := waA.heap.size) fun q hq => by omega
      have f3 : BoxAt (set2 w5 waA.heap.size (.slice (some ⟨b3, o3, none⟩) 4 c3) (.slice A3 0 c4)) _ _ _ := hU5.far2 (by omega)
      have f4 : RdA (set2 w5 waA.heap.size (.slice (some ⟨b3, o3, none⟩) 4 c3) (.slice A3 0 c4)) _ _ _ := hUr5.set2 (b := waA.heap.size) fun q hq => by omega
      have f5 : RdL RI (set2 w5 waA.heap.size (.slice (some ⟨b3, o3, none⟩) 4 c3) (.slice A3 0 c4)) _ _ _ := (okL okI).set2 hNs5 (b := waA.heap.size) fun q hq => by omega
      have f6 := hB5.trans (below_set2 (w := w5) (b := waA.heap.size) (v0 := .slice (some ⟨b3, o3, none⟩) 4 c3) (v1 := .slice A3 0 c4) hwA)
      have f7 : wU.heap.size ≤ (set2 w5 waA.heap.size (.slice (some ⟨b3, o3, none⟩) 4 c3) (.slice A3 0 c4)).heap.size := by rw [set2_size]; have := hal4.size; omega
      obtain ⟨w6, hw6⟩ : ∃ x, set2 w5 waA.heap.size (.slice (some ⟨b3, o3, none⟩) 4 c3) (.slice A3 0 c4) = x := ⟨_, rfl⟩
      rw [hw6] at f1 f2 f3 f4 f5 f6 f7
      change (w5.setCell ⟨waA.heap.size, 0, none⟩ (.slice (some ⟨b3, o3, none⟩) 4 c3)).setCell ⟨waA.heap.size, 1, none⟩ (.slice A3 0 c4) = w6 at hw6
      obtain ⟨un6, hun6, hRn6⟩ := RdL_q f5 (k := k) (x := nk) hnk0
      obtain rfl : un6 = .int .i64 nk := hRn6
      have H := Lib.hid (And.intro f1 (And.intro (f2.mono (F' := fun q => q < waA.heap.size ∨ waU.heap.size < q) fun q hq => by omega) (And.intro f3 (And.intro f4 (And.intro f5 (And.intro f6 f7))))))
      clear f1 f2 f3 f4 f5 f6 f7 hal4 hY4 hb5 hA5 hU5 hB5 hUr5 hNs5 hr5 hr4 hb4 hsh4 hi4 x0 x1 x2 x3
      go_wp2_with fail
      go_roundw
      case rel => exact ⟨k + 1, by omega, by go_num, ⟨_, _, H.out.1, H.out.2.1⟩, H.out.2.2.1, H.out.2.2.2.1, H.out.2.2.2.2.1, H.out.2.2.2.2.2.1, H.out.2.2.2.2.2.2⟩
      case measure => simp [intOf]; omega
namespace mendTellsDone
open Go.ChangeShapes Go.WideShapes Go.ChangeAt Go.RowKit M
open Go.ChangeMaps (open_string shut_string)
set_option linter.unusedVariables false
set_option maxRecDepth 100000 in
theorem lifted (os : Os) (started : os.Started) (H : Type) (enc : TypeId × Value → H) :
    ReturnsInHanded {} Try.checked os 12 .any (Rows.mendTellsSpec.pre6 enc Try.prog Try.f12 Rows.mendTellsRow.domain false) (Rows.mendTellsSpec.post enc Try.prog Try.f12 false true false false) := by
  refine returnsInHanded_of_change (C := Try.checked) own started (by kernel_rfl) Try.func12
    (ChangeSpec.witness6 (enc := enc) (C := Try.checked) false ⟨#[], #[.slice none 0 0, .int .i64 0], []⟩ 8 (by kernel_rfl) (by kernel_rfl) (by kernel_rfl) (by kernel_rfl)) ?_
  intro W base args ds gs before hval0 hW hcnd _
  have hval : ∀ (j : Nat) t v, Try.f12.params[j]? = some t → args[j]? = some v → Value.okWide Try.prog W .any base t v := hval0
  have hW' := hW
  obtain ⟨p, q, hA0, hV, rfl, hfz, hnd⟩ := hW
  have hA : DataW.TrodAll enc Try.prog W 0 (fun _ => true) true Try.f12.params.toList args.toList ds p := hA0
  rw [Try.params12] at hA hval
  obtain ⟨v0, vs0, d0, ds0, p0, q0, hargs, rfl, rfl, h0, r0⟩ := trodAll_cons hA
  obtain ⟨v1, vs1, d1, ds1, p1, q1, rfl, rfl, rfl, h1, r1⟩ := trodAll_cons r0
  obtain ⟨rfl, rfl, rfl⟩ := trodAll_nil r1
  obtain rfl : args = #[v0, v1] := by cases args; simp_all
  obtain ⟨rfl, rfl⟩ := trodVars_none hV
  obtain ⟨a0, len0, cap0, rfl⟩ := okWide_slice Try.underlying37 (hval 0 37 v0 rfl rfl)
  have k0 := h0
  have lt0 : ∀ x ∈ p0, x.block < W.heap.size := by obtain ⟨m, hm⟩ := k0; exact DataW.trod_lt m _ _ _ hm
  obtain ⟨fuel0, hf0⟩ := h0
  obtain ⟨b0, w0, l0⟩ := open_steps hf0
  obtain ⟨a1, rfl, rfl, rfl, w1⟩ := open_int Try.underlying3 (hval 1 3 v1 rfl rfl) h1
  have b1 := bounds_i64 w1
  clear hA0 hval0
  refine (mendTells_walk b0 _ a1 W w0 b1.1 b1.2).mono fun e W' ⟨he, bel⟩ => ?_
  subst he
  exact ⟨_, rfl, _, _, _, [], _, [], hW', trodAll_mk1 (shut_bool Try.underlying4 _), (trodAll_cons_mk (Below.trod laidOut (by kernel_rfl) (of_decide_eq_true (by kernel_rfl)) k0 bel lt0) (trodAll_cons_mk (shut_int Try.underlying3 w1) trodAll_mk0)), rfl, bel.frame _, fun h => by cases h⟩
theorem over : Rows.mendTellsRow.holds Try.pinned (OpenSpec.ofChange Rows.mendTellsSpec) :=
  OpenClaim.holds_of_wide 12 Try.f12 rfl rfl rfl rfl rfl rfl rfl ⟨rfl, rfl, rfl, rfl, rfl⟩ rfl rfl rfl rfl rfl (by kernel_rfl) Try.func12 (by kernel_rfl)
    (of_decide_eq_true (by kernel_rfl)) (by unfold Func.isWrapper; first | (rw [if_pos (by decide +kernel)]; kernel_rfl) | (rw [if_neg (by decide +kernel)]; exact ⟨rfl, rfl⟩))
    (fun os started H enc _ => lifted os started H enc)
/-- The statement. -/
theorem proved : Rows.MendTellsSaid := over
end mendTellsDone
end Go.Proofs.Ytlbnkoahkfhimaa

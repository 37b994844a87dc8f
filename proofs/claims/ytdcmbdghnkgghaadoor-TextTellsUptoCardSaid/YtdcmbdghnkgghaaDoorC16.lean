/- Chapter 8: array.Own, where there is one intent. -/
import Derived.Test.YtdcmbdghnkgghaaDoorZh
namespace Go.Proofs.YtdcmbdghnkgghaaDoor
set_option linter.unusedVariables false
open Go Go.RowKit M
theorem intTy : ∃ (i : TypeInfo) (z : Value), Tryd.prog.underlying 35 = some (.slice 78) ∧ Tryd.prog.info? 78 = some i ∧ i.zero = some z ∧ i.size = 2 ∧ i.bytes = 32 ∧ z.cells.size = 2 := by
  have h : (Tryd.prog.info? 78).map (fun i => (i.zero, i.size, i.bytes)) = some (some (.agg #[.int .i64 0, .slice none 0 0]), 2, 32) := by kernel_rfl
  obtain ⟨i, hi, h0, h1, h2⟩ := info_parts h
  exact ⟨i, _, Tryd.underlying35, hi, h0, h1, h2, rfl⟩
/-- AT A STEP 'append(nil, i)' of a statement that draws its order, i an intent. -/
theorem wp_append_int {w : World} {o : Oper} {a : Act} {Q : Exit → Act → World → Prop} {K : Act → World → Prop} (s x : Operand)
    (ho : o.op = .call { callee := .builtin .append, args := #[s, x], argTypes := #[35, 35] }) {b off c : Nat} {n : Int} {cv : Value} (h1 : cv.oneCell' = true)
    (hs : a.eval s = .slice none 0 0) (hx : a.eval x = .slice (some ⟨b, off, none⟩) 1 c) (hc0 : w.cell? ⟨b, off, none⟩ = some (.int .i64 n)) (hc1 : w.cell? ⟨b, off + 1, none⟩ = some cv)
    (h : ∀ g cap w', w.heap.size ≤ g → g < w'.heap.size → 1 ≤ cap → cap ≤ maxLen → w'.cell? ⟨g, 0, none⟩ = some (.int .i64 n) → w'.cell? ⟨g, 1, none⟩ = some cv → Below w.heap.size w w' → K (a.put o.dst (.slice (some ⟨g, 0, none⟩) 1 cap)) w') : Oper.wp Tryd.prog o a w K Q := by
  obtain ⟨i, z, ht, hi, hz, hsz, hby, hzs⟩ := intTy
  obtain ⟨v', w', hr, ho', hg, hnil⟩ := run_append_own (P := Tryd.prog) w w.heap.size 35 o.type 78 i z 2 32 ht hi hz hsz hby hzs (by decide) (.slice none 0 0) 0 [] (World.ownsRow_nil _ _ _ _) ⟨b, off, none⟩ 1 c [.int .i64 n, cv] rfl (fun j u hu => by
    have hadd : (⟨b, off, none⟩ : Addr).add j = ⟨b, off + j, none⟩ := by unfold Addr.add; split <;> simp_all
    rw [hadd]
    match j with
    | 0 => simp at hu; subst hu; exact hc0
    | 1 => simp at hu; subst hu; exact hc1
    | j + 2 => simp at hu) (fun u hu => by simp at hu; rcases hu with rfl | rfl; rfl; exact h1) (by decide) (by decide) (Nat.le_refl _)
  have hb : Below w.heap.size w w' := (Below.refl _ w).grown hg (Nat.le_refl _) (fun k hk => by simp [Value.ownBlock] at hk)
  rcases ho'.2 with ⟨_, h0⟩ | ⟨g, cap, cur, rfl, r1, r2, r3, r4, r5, r6⟩
  · omega
  · unfold Oper.wp execOp
    simp only [ho, resolve, invoke, builtin, Sem.run_bind, Sem.run_pure, Result.andThen_ok, List.map_toArray, List.map_cons, List.map_nil, hs, hx, hr]
    have hcell := fun (j : Nat) (u : Value) (hu : ([.int .i64 n, cv] : List Value)[j]? = some u) => ho'.cells (g := g) rfl j u hu
    refine h g cap w' r1 (ho'.lt g rfl).2 ?_ ?_ (hcell 0 _ rfl) ?_ hb
    · exact r3
    · exact r4
    · have := hcell 1 cv rfl
      exact this
def Ri (B : Nat) (i : Int × List Bs) : Know := fun w v => RdI w (fun k => B ≤ k ∧ k < w.heap.size) v i
theorem mRi (B : Nat) (i : Int × List Bs) : Mono (Ri B i) := fun _ _ _ hb ⟨cv, e, h⟩ => ⟨cv, e, okBB.old h hb fun _ hk _ => ⟨hk.1, Nat.lt_of_lt_of_le hk.2 hb.size⟩⟩
set_option maxRecDepth 100000 in
set_option maxHeartbeats 1600000 in
theorem array_Own1 (a : Arr) (i : Int × List Bs) (v : Value) (F : Fp) (w : World) (h : RdA w F v a) (hsh : Shape a.disks) (hno : a.ints = [i]) (hi4 : i.2.length = 4) (hi8 : ∀ c ∈ i.2, c.length ≤ 8) :
    Calls Tryd.prog 36 #[v] w fun e w' => ∃ dv iv B, e = .returned (.agg #[dv, iv]) ∧ DISKS w' (fun k => w.heap.size ≤ k ∧ k < B) dv a.disks ∧ RdIs w' (fun k => w.heap.size ≤ k ∧ B ≤ k) iv [i] ∧ Below w.heap.size w w' := by
  obtain ⟨b0, o0, c0, Ai, ci, rfl, hD, hI, hc0, hc1⟩ := RdA_open h hsh
  have hl1 : a.ints.length = 1 := by rw [hno]; rfl
  rw [hl1] at hI ⊢
  rw [hno] at hI
  clear hl1
  obtain ⟨w1, hW, hA, hZ, hX, hB, hsz⟩ := boxes3 w [.slice (some ⟨b0, o0, none⟩) 4 c0, .slice Ai 1 ci] [.slice none 0 0, .slice none 0 0] [.slice none 0 0, .slice none 0 0] 37 37 37
  change (((w.alloc (.cells #[.slice (some ⟨b0, o0, none⟩) 4 c0, .slice Ai 1 ci] 37)).alloc (.cells #[.slice none 0 0, .slice none 0 0] 37)).alloc (.cells #[.slice none 0 0, .slice none 0 0] 37)) = w1 at hW
  obtain ⟨x0, x1, x2, x3⟩ := hA.two
  have HSZ := Lib.hid hsz
  have HS := Lib.hid hsh
  have HI4 := Lib.hid (And.intro hi4 hi8)
  clear h hno hsh hsz hi4 hi8
  go_enter Tryd.func36, Tryd.ntmps36
  go_wp2_with fail
  clear hW x0 x1 x2 x3
  go_loopw [11] (fun i wr => ∃ k : Nat, k ≤ 4 ∧ i = .int .i64 k ∧ (∃ dv, BoxAt wr (w.heap.size + 1 + 1) 37 [dv, .slice none 0 0] ∧ DISKS wr (fun k => w.heap.size + 3 ≤ k) dv (a.disks.take k)) ∧ BoxAt wr w.heap.size 37 [.slice (some ⟨b0, o0, none⟩) 4 c0, .slice Ai 1 ci] ∧ BoxAt wr (w.heap.size + 1) 37 [.slice none 0 0, .slice none 0 0] ∧ Below w.heap.size w wr ∧ w.heap.size + 3 ≤ wr.heap.size) (fun i _ => 4 - (intOf i).toNat)
  case atStart => exact ⟨0, Nat.zero_le _, rfl, ⟨_, hX, OwnL.nil_ _ _ _ _⟩, hA, hZ, hB, by rw [HSZ.out]; exact Nat.le_refl _⟩
  case round =>
    obtain ⟨k, hk, rfl, ⟨dv, hX1, hO1⟩, hA1, hZ1, hB1, hs1⟩ := hrel
    obtain ⟨x0, x1, x2, x3⟩ := hA1.two
    by_cases hlt : k < 4
    · obtain ⟨b, off, u, e1, _, hu, hR⟩ := (okBBB.grow hD hB1).at_ (k := k) (by rw [HS.out.1]; exact hlt)
      injection e1 with e1
      injection e1 with e2 e3
      subst e2; subst e3
      obtain ⟨row, hrow⟩ : ∃ r, a.disks[k]'(by rw [HS.out.1]; exact hlt) = r := ⟨_, rfl⟩
      rw [hrow] at hR
      have hrm := HS.out.2 row (by rw [← hrow]; exact List.getElem_mem _)
      obtain ⟨Ar, cr, rfl, _, _⟩ := hR.shape
      have HX := Lib.hid (show a.disks.take k ++ [row] = a.disks.take (k + 1) by rw [List.take_succ_eq_append_getElem (by rw [HS.out.1]; exact hlt), hrow])
      have HT := Lib.hid (show ((a.disks.take k).length + 1) * 24 ≤ 140737488355328 by rw [List.length_take]; omega)
      obtain ⟨Av, cv, rfl, _, _⟩ := (disks_rd hO1).shape
      have htk : (a.disks.take k).length = k := by rw [List.length_take, HS.out.1]; omega
      rw [htk] at hX1 hO1
      have H1 := Lib.hid (And.intro hX1 (And.intro hO1 (And.intro hA1 (And.intro hZ1 (And.intro hB1 hs1)))))
      have HR := Lib.hid hR
      have HRM := Lib.hid hrm
      clear hX1 hO1 hZ1 hA1 hR hrow hrm hB1
      go_wp2_with fail
      clear x0 x1 x2 x3 hu
      refine region_three (w.heap.size + 1 + 1) [Ck (.pointer (some ⟨w.heap.size + 1 + 1, 0, none⟩)), Ck (.slice Av k cv), Ck (.slice Ar row.length cr), Ek 0 (Rg ROW wr.heap.size row), Ek 0 (Rg (RdL ROW) wr.heap.size [row]), Fk 1 (Rf DISKS (fun q => w.heap.size + 3 ≤ q) (a.disks.take (k + 1))), Ck (.pointer (some ⟨w.heap.size + 1 + 1, 0, none⟩)), Tk] (fun m wx => (m ≤ 1 → BoxAt wx (w.heap.size + 1 + 1) 37 [.slice Av k cv, .slice none 0 0]) ∧ (m = 0 → Below wr.heap.size wr wx) ∧ (m = 2 → ∃ dv', BoxAt wx (w.heap.size + 1 + 1) 37 [dv', .slice none 0 0] ∧ DISKS wx (fun q => w.heap.size + 3 ≤ q) dv' (a.disks.take (k + 1))) ∧ w.heap.size + 3 ≤ wx.heap.size) [5, 7] (by kernel_rfl) (by kernel_rfl) (by kernel_rfl) (by kernel_rfl) (by kernel_rfl) ?_ ?_ (fun m w w' hb h => ⟨fun e => (h.1 e).grow hb, fun e => (h.2.1 e).trans (hb.mono (h.2.1 e).size), fun e => (h.2.2.1 e).imp fun dv hv => ⟨hv.1.grow hb, okDISKS.grow hv.2 hb⟩, Nat.le_trans h.2.2.2 hb.size⟩) (⟨fun _ => H1.out.1, fun _ => Below.refl _ _, fun h => absurd h (by decide), hs1⟩) ?_ ?_
      · first | exact Nat.le_refl _ | assumption | omega
      · repeat (first | exact trivial | refine ⟨mCk _, ?_⟩ | refine ⟨mTk, ?_⟩ | refine ⟨mEk _ (by first | exact mC _ | exact mT | exact mR okB _ | exact mR okBB _ | exact mR okBBB _ | exact mRn okB _ _ | exact mRn okBB _ _ | exact mOw _ _ _ _ | exact mRm okB _ _ _ | exact mRa _ _ | exact mRg okROW _ _ | exact mRg okROWS _ _ | exact mRf okDISKS _ _ | exact mRg okCELL _ _ | exact mRg okBB _ _ | exact mRg okB _ _ | exact mRg okIs _ _ | exact mRi _ _ | exact mOx _ _), ?_⟩ | refine ⟨mFk _ (by first | exact mC _ | exact mT | exact mR okB _ | exact mR okBB _ | exact mR okBBB _ | exact mRn okB _ _ | exact mRn okBB _ _ | exact mOw _ _ _ _ | exact mRm okB _ _ _ | exact mRa _ _ | exact mRg okROW _ _ | exact mRg okROWS _ _ | exact mRf okDISKS _ _ | exact mRg okCELL _ _ | exact mRg okBB _ _ | exact mRg okB _ _ | exact mRg okIs _ _ | exact mRi _ _ | exact mOx _ _), ?_⟩ | refine ⟨fun _ => (by first | exact mC _ | exact mT | exact mR okB _ | exact mR okBB _ | exact mR okBBB _ | exact mRn okB _ _ | exact mRn okBB _ _ | exact mOw _ _ _ _ | exact mRm okB _ _ _ | exact mRa _ _ | exact mRg okROW _ _ | exact mRg okROWS _ _ | exact mRf okDISKS _ _ | exact mRg okCELL _ _ | exact mRg okBB _ _ | exact mRg okB _ _ | exact mRg okIs _ _ | exact mRi _ _ | exact mOx _ _), ?_⟩)
      · simp only [StepsL3]
        refine ⟨?_, ?_, ?_, ?_, ?_, ?_, ?_, ?_, trivial⟩
        · refine @id (StepG _ _ _ _ _ _ _ _ _ _ _) ?_
          intro nst ys wx hn hmay hw hS hd
          intro K hK
          simp only [putL, Act.put, List.setIfInBounds_toArray, List.set_cons_zero, List.set_cons_succ, Nat.zero_add, Nat.reduceAdd] at hK ⊢
          rw [if_pos (by rfl)]
          go_simp
          exact hK _ _ (Below.refl _ _) rfl
        · refine @id (StepG _ _ _ _ _ _ _ _ _ _ _) ?_
          intro nst ys wx hn hmay hw hS hd
          obtain rfl : nst = 0 := may_one hmay hn (by kernel_rfl)
          intro K hK
          have e0 : ys 0 = _ := hd 0 (by decide)
          simp only [putL, Act.put, List.setIfInBounds_toArray, List.set_cons_zero, List.set_cons_succ, Nat.zero_add, Nat.reduceAdd, e0] at hK ⊢
          rw [if_pos (by rfl)]
          obtain ⟨x0, x1, x2, x3⟩ := (hS.1 (by decide)).two
          go_simp
          exact hK _ _ (Below.refl _ _) rfl
        · refine @id (StepG _ _ _ _ _ _ _ _ _ _ _) ?_
          intro nst ys wx hn hmay hw hS hd
          intro K hK
          simp only [putL, Act.put, List.setIfInBounds_toArray, List.set_cons_zero, List.set_cons_succ, Nat.zero_add, Nat.reduceAdd] at hK ⊢
          rw [if_pos (by rfl)]
          go_simp
          exact hK _ _ (Below.refl _ _) rfl
        · refine @id (StepG _ _ _ _ _ _ _ _ _ _ _) ?_
          intro nst ys wx hn hmay hw hS hd
          obtain rfl : nst = 0 := may_one hmay hn (by kernel_rfl)
          intro K hK
          have e2 : ys 2 = _ := hd 2 (by decide)
          simp only [putL, Act.put, List.setIfInBounds_toArray, List.set_cons_zero, List.set_cons_succ, Nat.zero_add, Nat.reduceAdd, e2] at hK ⊢
          rw [if_pos (by rfl)]
          go_simp
          refine (array_own row _ _ _ (okBB.grow (okBB.lt HR.out) (hS.2.1 rfl)) (by rw [HRM.out.1]; decide) (fun c hc => Nat.le_trans (HRM.out.2 c hc) (by decide))).mono ?_
          rintro e w' ⟨v', rfl, hv', hb'⟩
          exact hK _ _ hb' (okROW.mono (okROW.lt hv') fun q hq => ⟨Nat.le_trans (hS.2.1 rfl).size hq.1, hq.2⟩)
        · refine @id (StepG _ _ _ _ _ _ _ _ _ _ _) ?_
          intro nst ys wx hn hmay hw hS hd
          obtain rfl : nst = 0 := may_one hmay hn (by kernel_rfl)
          intro K hK
          have k3 := hd 3 (by decide)
          change (Rg ROW wr.heap.size row) wx (ys 3) at k3
          simp only [putL, Act.put, List.setIfInBounds_toArray, List.set_cons_zero, List.set_cons_succ, Nat.zero_add, Nat.reduceAdd] at hK ⊢
          rw [if_pos (by rfl)]
          have k3' : ROW wx (fun q => wr.heap.size ≤ q ∧ q < wx.heap.size) (ys 3) row := k3
          obtain ⟨A3, c3, hy, _, _⟩ := (row_rd k3').shape
          rw [hy] at k3'
          simp only [hy] at hK ⊢
          clear k3 hy
          have hso := (hS.2.1 rfl).size
          go_simp
          exact hK _ _ (below_alloc _ _) (okROWS.lt (RdL.one_ okROW (F := fun q => wr.heap.size ≤ q) (okROW.mono k3' fun q hq => hq.1) _ hso))
        · refine @id (StepS _ _ _ _ _ _ _ _ _ _ _) ?_
          intro ys wx hw hS hd K hK
          have e1 : ys 1 = _ := hd 1 (by decide)
          have k4 := hd 4 (by decide)
          change (Rg (RdL ROW) wr.heap.size [row]) wx (ys 4) at k4
          simp only [putL, Act.put, List.setIfInBounds_toArray, List.set_cons_zero, List.set_cons_succ, Nat.zero_add, Nat.reduceAdd, e1] at hK ⊢
          rw [if_pos (by rfl)]
          have k4' : RdL ROW wx (fun q => wr.heap.size ≤ q ∧ q < wx.heap.size) (ys 4) [row] := k4
          refine wp_append_apart _ _ 34 (by rfl) okROW slBBB (w.heap.size + 3) (.slice Av k cv) (ys 4) (a.disks.take k) row (by rfl) (by rfl) H1.out.2.1 (hS.2.1 rfl) (okROWS.mono k4' fun q hq => hq.1) HT.out hs1 ?_
          intro v' w' g1 g2 g3 g4
          rw [HX.out] at g1
          have hne : some (w.heap.size + 1 + 1) ≠ (Value.slice Av k cv).ownBlock := fun e => by have := (H1.out.2.1.blk _ e.symm).1; omega
          exact hK _ _ (g2.mono (by omega)) ⟨fun _ => (g3.block _ (hS.1 (by decide)).lt hne).trans (hS.1 (by decide)), fun e => absurd e (by decide), fun e => absurd e (by decide), Nat.le_trans hS.2.2.2 g2.size⟩ g1 ⟨fun _ h => h, fun _ h => h, fun _ h => h, fun _ _ => trivial, fun _ _ => trivial, fun _ h => h.elim, fun _ h => h, fun _ h => h, trivial⟩
        · refine @id (StepG _ _ _ _ _ _ _ _ _ _ _) ?_
          intro nst ys wx hn hmay hw hS hd
          intro K hK
          simp only [putL, Act.put, List.setIfInBounds_toArray, List.set_cons_zero, List.set_cons_succ, Nat.zero_add, Nat.reduceAdd] at hK ⊢
          rw [if_pos (by rfl)]
          go_simp
          exact hK _ _ (Below.refl _ _) rfl
        · refine @id (StepS _ _ _ _ _ _ _ _ _ _ _) ?_
          intro ys wx hw hS hd K hK
          have k5 := hd 5 (by decide)
          change (Rf DISKS (fun q => w.heap.size + 3 ≤ q) (a.disks.take (k + 1))) wx (ys 5) at k5
          have e6 : ys 6 = _ := hd 6 (by decide)
          simp only [putL, Act.put, List.setIfInBounds_toArray, List.set_cons_zero, List.set_cons_succ, Nat.zero_add, Nat.reduceAdd, e6] at hK ⊢
          rw [if_pos (by rfl)]
          have k5' : DISKS wx (fun q => w.heap.size + 3 ≤ q) (ys 5) (a.disks.take (k + 1)) := k5
          obtain ⟨g, cg, hy, _, _, _, _⟩ := k5'.form (by rw [List.length_take, HS.out.1]; omega)
          rw [show (a.disks.take (k + 1)).length = k + 1 by rw [List.length_take, HS.out.1]; omega] at hy
          rw [hy] at k5'
          simp only [hy] at hK ⊢
          clear k5
          obtain ⟨x0, x1, x2, x3⟩ := (hS.1 (by decide)).two
          have hbs := (Below.refl (w.heap.size + 1 + 1) wx).setCell (p := ⟨w.heap.size + 1 + 1, 0, none⟩) (Nat.le_refl _) (.slice (some ⟨g, 0, none⟩) (k + 1) cg)
          have f1 := (hS.1 (by decide)).set_ 0 (.slice (some ⟨g, 0, none⟩) (k + 1) cg)
          have f2 := okDISKS.setc k5' (b := w.heap.size + 1 + 1) (j := 0) (v := .slice (some ⟨g, 0, none⟩) (k + 1) cg) (fun q hq => by omega)
          have f3 : w.heap.size + 3 ≤ (wx.setCell ⟨w.heap.size + 1 + 1, 0, none⟩ (.slice (some ⟨g, 0, none⟩) (k + 1) cg)).heap.size := by rw [setCell_size]; exact hS.2.2.2
          go_simp
          exact hK undef _ hbs ⟨fun e => absurd e (by decide), fun e => absurd e (by decide), fun _ => ⟨_, f1, f2⟩, f3⟩ trivial ⟨fun _ h => h, fun _ h => h, fun _ h => h, fun _ h => h, fun _ h => h, fun _ h => okDISKS.setc h (fun q hq => by omega), fun _ h => h, fun _ h => h, trivial⟩
      · intro ys w' hl' hS' hV
        clear hV
        simp only [putL, Act.put, List.setIfInBounds_toArray, List.set_cons_zero, List.set_cons_succ, Nat.zero_add, Nat.reduceAdd]
        obtain ⟨dv', n1, n2⟩ := hS'.2.2.1 rfl
        have hle : w.heap.size + 1 + 1 ≤ wr.heap.size := by omega
        have n3 : BoxAt _ w.heap.size _ _ := H1.out.2.2.1.keep hl' (by omega)
        have n4 : BoxAt _ (w.heap.size + 1) _ _ := H1.out.2.2.2.1.keep hl' (by omega)
        have n5 := H1.out.2.2.2.2.1.trans (hl'.mono (by omega))
        have HN := Lib.hid (And.intro n1 (And.intro n2 (And.intro n3 (And.intro n4 (And.intro n5 hS'.2.2.2)))))
        clear n1 n2 n3 n4 n5 hS' hl'
        go_wp2
        go_roundw
        case rel => exact ⟨k + 1, by omega, by go_num, ⟨_, HN.out.1, HN.out.2.1⟩, HN.out.2.2.1, HN.out.2.2.2.1, HN.out.2.2.2.2.1, HN.out.2.2.2.2.2⟩
        case measure => simp [intOf]; omega
    · obtain rfl : k = 4 := by omega
      rw [List.take_of_length_le (by rw [HS.out.1]; exact Nat.le_refl _)] at hO1
      obtain ⟨x0, x1, x2, x3⟩ := hA1.two
      obtain ⟨g, cg, rfl, _, _, _, _⟩ := hO1.form (by rw [HS.out.1]; decide)
      rw [HS.out.1] at hX1 hO1
      have H1 := Lib.hid (And.intro hX1 (And.intro hO1 (And.intro hZ1 (And.intro hB1 hs1))))
      clear hX1 hZ1 hs1 hk hlt
      obtain ⟨bi, oi, ci2, u, hag, _, hcm, g0, g1, gR⟩ := (okIs.grow hI hB1).q (j := 0) rfl
      injection hag with e1 e2 e3
      subst e1; subst e3
      clear e2
      rw [Nat.zero_mul, Nat.add_zero] at g0 g1
      unfold maxLen at hcm
      obtain ⟨A4, c4, rfl, _, _⟩ := gR.shape
      rw [HI4.out.1] at g1 gR
      have HGR := Lib.hid gR
      have HG := Lib.hid (And.intro g0 g1)
      clear g0 g1 gR hO1
      go_wp2_with fail
      rename World => w2
      have hd1 : decide ((0 : Int) < 1) = true := rfl
      clear x0 x1 x2 x3
      go_loopw [26] (fun v wr => (v = .int .i64 0 ∧ wr = w2) ∨ (v = .int .i64 1 ∧ ∃ iv, BoxAt wr (w.heap.size + 1 + 1) 37 [.slice (some ⟨g, 0, none⟩) 4 cg, iv] ∧ RdIs wr (fun q => w2.heap.size ≤ q) iv [i] ∧ DISKS wr (fun q => w.heap.size + 3 ≤ q ∧ q < w2.heap.size) (.slice (some ⟨g, 0, none⟩) 4 cg) a.disks ∧ BoxAt wr (w.heap.size + 1) 37 [.slice none 0 0, .slice none 0 0] ∧ Below w.heap.size w wr)) (fun v _ => 1 - (intOf v).toNat)
      case atStart => exact .inl ⟨rfl, rfl⟩
      case round =>
        obtain ⟨hX2, hO2, hZ2, hB2, hs2⟩ := H1.out
        rcases hrel with ⟨rfl, rfl⟩ | ⟨rfl, iv, hX3, hI3, hO3, hZ3, hB3⟩
        · obtain ⟨g0, g1⟩ := HG.out
          have hal := below_alloc wr (.cells #[.int .i64 i.1, .slice A4 4 c4] 78)
          have hY := boxAt_new wr 78 [.int .i64 i.1, .slice A4 4 c4]
          have hXI := hX2.grow hal
          have hZI := hZ2.grow hal
          have hOI := okDISKS.grow (okDISKS.lt hO2) hal
          have hBI := hB2.trans (hal.mono hB2.size)
          have hRI := okBB.grow HGR.out hal
          have hsI := alloc_size wr (.cells #[.int .i64 i.1, .slice A4 4 c4] 78)
          obtain ⟨wI, hwI⟩ : ∃ x, wr.alloc (.cells #[.int .i64 i.1, .slice A4 4 c4] 78) = x := ⟨_, rfl⟩
          change BoxAt (wr.alloc (.cells #[.int .i64 i.1, .slice A4 4 c4] 78)) _ _ _ at hY
          rw [hwI] at hal hY hXI hZI hOI hBI hRI hsI
          obtain ⟨BI, hBIe⟩ : ∃ x, wr.heap.size = x := ⟨_, rfl⟩
          rw [hBIe] at hY hOI hsI hs2
          have HI := Lib.hid (And.intro hY (And.intro hXI (And.intro hZI (And.intro hOI (And.intro hBI hRI)))))
          clear hal hY hXI hZI hOI hBI hRI hX2 hO2 hZ2 hB2 H1 HG
          go_wp2_with fail
          clear g0 g1 hwI
          have hbase : w.heap.size + 1 + 1 ≤ wI.heap.size := by omega
          refine region_three (w.heap.size + 1 + 1) [Ck (.pointer (some ⟨w.heap.size + 1 + 1, 1, none⟩)), Ck (.slice none 0 0), Ck (.pointer (some ⟨BI, 0, none⟩)), Ck (.int .i64 i.1), Ck (.pointer (some ⟨BI, 1, none⟩)), Ck (.slice A4 4 c4), Ek 0 (Rg RdBB wI.heap.size i.2), Ek 0 (Ri wI.heap.size i), Ek 0 (Rg RdIs wI.heap.size [i]), Ek 0 (Rg RdIs wI.heap.size [i]), Ck (.pointer (some ⟨w.heap.size + 1 + 1, 1, none⟩)), Tk] (fun m wx => (m = 0 → BoxAt wx (w.heap.size + 1 + 1) 37 [.slice (some ⟨g, 0, none⟩) 4 cg, .slice none 0 0] ∧ Below wI.heap.size wI wx) ∧ (m = 1 → ∃ iv, BoxAt wx (w.heap.size + 1 + 1) 37 [.slice (some ⟨g, 0, none⟩) 4 cg, iv] ∧ RdIs wx (fun q => wI.heap.size ≤ q) iv [i]) ∧ BoxAt wx BI 78 [.int .i64 i.1, .slice A4 4 c4] ∧ DISKS wx (fun q => w.heap.size + 3 ≤ q ∧ q < BI) (.slice (some ⟨g, 0, none⟩) 4 cg) a.disks) [11] (by kernel_rfl) (by kernel_rfl) (by kernel_rfl) (by kernel_rfl) (by kernel_rfl) ?_ ?_ (fun m w w' hb h => ⟨fun e => ⟨(h.1 e).1.grow hb, (h.1 e).2.trans (hb.mono (h.1 e).2.size)⟩, fun e => (h.2.1 e).imp fun iv hv => ⟨hv.1.grow hb, okIs.grow hv.2 hb⟩, h.2.2.1.grow hb, okDISKS.grow h.2.2.2 hb⟩) (⟨fun _ => ⟨HI.out.2.1, Below.refl _ _⟩, fun h => absurd h (by decide), HI.out.1, HI.out.2.2.2.1⟩) ?_ ?_
          · first | exact Nat.le_refl _ | assumption | omega
          · repeat (first | exact trivial | refine ⟨mCk _, ?_⟩ | refine ⟨mTk, ?_⟩ | refine ⟨mEk _ (by first | exact mC _ | exact mT | exact mR okB _ | exact mR okBB _ | exact mR okBBB _ | exact mRn okB _ _ | exact mRn okBB _ _ | exact mOw _ _ _ _ | exact mRm okB _ _ _ | exact mRa _ _ | exact mRg okROW _ _ | exact mRg okROWS _ _ | exact mRf okDISKS _ _ | exact mRg okCELL _ _ | exact mRg okBB _ _ | exact mRg okB _ _ | exact mRg okIs _ _ | exact mRi _ _ | exact mOx _ _), ?_⟩ | refine ⟨mFk _ (by first | exact mC _ | exact mT | exact mR okB _ | exact mR okBB _ | exact mR okBBB _ | exact mRn okB _ _ | exact mRn okBB _ _ | exact mOw _ _ _ _ | exact mRm okB _ _ _ | exact mRa _ _ | exact mRg okROW _ _ | exact mRg okROWS _ _ | exact mRf okDISKS _ _ | exact mRg okCELL _ _ | exact mRg okBB _ _ | exact mRg okB _ _ | exact mRg okIs _ _ | exact mRi _ _ | exact mOx _ _), ?_⟩ | refine ⟨fun _ => (by first | exact mC _ | exact mT | exact mR okB _ | exact mR okBB _ | exact mR okBBB _ | exact mRn okB _ _ | exact mRn okBB _ _ | exact mOw _ _ _ _ | exact mRm okB _ _ _ | exact mRa _ _ | exact mRg okROW _ _ | exact mRg okROWS _ _ | exact mRf okDISKS _ _ | exact mRg okCELL _ _ | exact mRg okBB _ _ | exact mRg okB _ _ | exact mRg okIs _ _ | exact mRi _ _ | exact mOx _ _), ?_⟩)
          · simp only [StepsL3]
            refine ⟨?_, ?_, ?_, ?_, ?_, ?_, ?_, ?_, ?_, ?_, ?_, ?_, trivial⟩
            · refine @id (StepG _ _ _ _ _ _ _ _ _ _ _) ?_
              intro nst ys wx hn hmay hw hS hd
              intro K hK
              simp only [putL, Act.put, List.setIfInBounds_toArray, List.set_cons_zero, List.set_cons_succ, Nat.zero_add, Nat.reduceAdd] at hK ⊢
              rw [if_pos (by rfl)]
              go_simp
              exact hK _ _ (Below.refl _ _) rfl
            · refine @id (StepG _ _ _ _ _ _ _ _ _ _ _) ?_
              intro nst ys wx hn hmay hw hS hd
              obtain rfl : nst = 0 := may_one hmay hn (by kernel_rfl)
              intro K hK
              have e0 : ys 0 = _ := hd 0 (by decide)
              simp only [putL, Act.put, List.setIfInBounds_toArray, List.set_cons_zero, List.set_cons_succ, Nat.zero_add, Nat.reduceAdd, e0] at hK ⊢
              rw [if_pos (by rfl)]
              obtain ⟨x0, x1, x2, x3⟩ := (hS.1 rfl).1.two
              go_simp
              exact hK _ _ (Below.refl _ _) rfl
            · refine @id (StepG _ _ _ _ _ _ _ _ _ _ _) ?_
              intro nst ys wx hn hmay hw hS hd
              intro K hK
              simp only [putL, Act.put, List.setIfInBounds_toArray, List.set_cons_zero, List.set_cons_succ, Nat.zero_add, Nat.reduceAdd] at hK ⊢
              rw [if_pos (by rfl)]
              go_simp
              exact hK _ _ (Below.refl _ _) rfl
            · refine @id (StepG _ _ _ _ _ _ _ _ _ _ _) ?_
              intro nst ys wx hn hmay hw hS hd
              obtain rfl : nst = 0 := may_one hmay hn (by kernel_rfl)
              intro K hK
              have e2 : ys 2 = _ := hd 2 (by decide)
              simp only [putL, Act.put, List.setIfInBounds_toArray, List.set_cons_zero, List.set_cons_succ, Nat.zero_add, Nat.reduceAdd, e2] at hK ⊢
              rw [if_pos (by rfl)]
              obtain ⟨x0, x1, x2, x3⟩ := hS.2.2.1.two
              go_simp
              exact hK _ _ (Below.refl _ _) rfl
            · refine @id (StepG _ _ _ _ _ _ _ _ _ _ _) ?_
              intro nst ys wx hn hmay hw hS hd
              intro K hK
              simp only [putL, Act.put, List.setIfInBounds_toArray, List.set_cons_zero, List.set_cons_succ, Nat.zero_add, Nat.reduceAdd] at hK ⊢
              rw [if_pos (by rfl)]
              go_simp
              exact hK _ _ (Below.refl _ _) rfl
            · refine @id (StepG _ _ _ _ _ _ _ _ _ _ _) ?_
              intro nst ys wx hn hmay hw hS hd
              obtain rfl : nst = 0 := may_one hmay hn (by kernel_rfl)
              intro K hK
              have e4 : ys 4 = _ := hd 4 (by decide)
              simp only [putL, Act.put, List.setIfInBounds_toArray, List.set_cons_zero, List.set_cons_succ, Nat.zero_add, Nat.reduceAdd, e4] at hK ⊢
              rw [if_pos (by rfl)]
              obtain ⟨x0, x1, x2, x3⟩ := hS.2.2.1.two
              go_simp
              exact hK _ _ (Below.refl _ _) rfl
            · refine @id (StepG _ _ _ _ _ _ _ _ _ _ _) ?_
              intro nst ys wx hn hmay hw hS hd
              obtain rfl : nst = 0 := may_one hmay hn (by kernel_rfl)
              intro K hK
              have e5 : ys 5 = _ := hd 5 (by decide)
              simp only [putL, Act.put, List.setIfInBounds_toArray, List.set_cons_zero, List.set_cons_succ, Nat.zero_add, Nat.reduceAdd, e5] at hK ⊢
              rw [if_pos (by rfl)]
              go_simp
              refine (array_own i.2 _ _ _ (okBB.grow (okBB.lt HI.out.2.2.2.2.2) (hS.1 rfl).2) (by rw [HI4.out.1]; decide) (fun c hc => Nat.le_trans (HI4.out.2 c hc) (by decide))).mono ?_
              rintro e w' ⟨v', rfl, hv', hb'⟩
              exact hK _ _ hb' (okBB.mono (okBB.lt (row_rd hv')) fun q hq => ⟨Nat.le_trans (hS.1 rfl).2.size hq.1, hq.2⟩)
            · refine @id (StepG _ _ _ _ _ _ _ _ _ _ _) ?_
              intro nst ys wx hn hmay hw hS hd
              obtain rfl : nst = 0 := may_one hmay hn (by kernel_rfl)
              intro K hK
              have e3 : ys 3 = _ := hd 3 (by decide)
              have k6 := hd 6 (by decide)
              change (Rg RdBB wI.heap.size i.2) wx (ys 6) at k6
              simp only [putL, Act.put, List.setIfInBounds_toArray, List.set_cons_zero, List.set_cons_succ, Nat.zero_add, Nat.reduceAdd, e3] at hK ⊢
              rw [if_pos (by rfl)]
              have k6' : RdBB wx (fun q => wI.heap.size ≤ q ∧ q < wx.heap.size) (ys 6) i.2 := k6
              obtain ⟨A6, c6, hy, _, _⟩ := k6'.shape
              rw [hy] at k6'
              simp only [hy] at hK ⊢
              clear k6 hy
              go_simp
              exact hK _ _ (Below.refl _ _) ⟨_, rfl, k6'⟩
            · refine @id (StepG _ _ _ _ _ _ _ _ _ _ _) ?_
              intro nst ys wx hn hmay hw hS hd
              obtain rfl : nst = 0 := may_one hmay hn (by kernel_rfl)
              intro K hK
              have k7 := hd 7 (by decide)
              change (Ri wI.heap.size i) wx (ys 7) at k7
              simp only [putL, Act.put, List.setIfInBounds_toArray, List.set_cons_zero, List.set_cons_succ, Nat.zero_add, Nat.reduceAdd] at hK ⊢
              rw [if_pos (by rfl)]
              obtain ⟨cv, hy, k7'⟩ := k7
              obtain ⟨A6, c6, rfl, _, _⟩ := k7'.shape
              simp only [hy] at hK ⊢
              clear hy
              have hso := (hS.1 rfl).2.size
              go_simp
              exact hK _ _ (below_alloc _ _) (okIs.mono (okIs.lt (RdIs.one_ (F := fun q => wI.heap.size ≤ q) (okBB.mono k7' fun q hq => hq.1) _ hso)) fun q hq => hq)
            · refine @id (StepG _ _ _ _ _ _ _ _ _ _ _) ?_
              intro nst ys wx hn hmay hw hS hd
              obtain rfl : nst = 0 := may_one hmay hn (by kernel_rfl)
              intro K hK
              have e1 : ys 1 = _ := hd 1 (by decide)
              have k8 := hd 8 (by decide)
              change (Rg RdIs wI.heap.size [i]) wx (ys 8) at k8
              simp only [putL, Act.put, List.setIfInBounds_toArray, List.set_cons_zero, List.set_cons_succ, Nat.zero_add, Nat.reduceAdd, e1] at hK ⊢
              rw [if_pos (by rfl)]
              have k8' : RdIs wx (fun q => wI.heap.size ≤ q ∧ q < wx.heap.size) (ys 8) [i] := k8
              obtain ⟨b8, o8, c8, u8, hy, _, _, h0, h1, hR8⟩ := k8'.q (j := 0) rfl
              rw [Nat.zero_mul, Nat.add_zero] at h0 h1
              simp only [hy] at hK ⊢
              have hso := (hS.1 rfl).2.size
              refine wp_append_int _ _ (by rfl) (okBB.one hR8) (by rfl) (by rfl) h0 h1 ?_
              intro gn cap w' m1 m2 m3 m4 m5 m6 m7
              exact hK _ _ m7 ⟨_, cap, rfl, m3, m4, fun _ => ⟨gn, 0, rfl, ⟨Nat.le_trans hso m1, m2⟩, fun j ii hj => by
                match j with
                | 0 =>
                  simp at hj
                  subst hj
                  exact ⟨m5, u8, m6, okBB.mono (okBB.grow (okBB.lt hR8) m7) fun q hq => ⟨hq.1.1, Nat.lt_of_lt_of_le hq.2 m7.size⟩⟩
                | j + 1 => simp at hj⟩⟩
            · refine @id (StepG _ _ _ _ _ _ _ _ _ _ _) ?_
              intro nst ys wx hn hmay hw hS hd
              intro K hK
              simp only [putL, Act.put, List.setIfInBounds_toArray, List.set_cons_zero, List.set_cons_succ, Nat.zero_add, Nat.reduceAdd] at hK ⊢
              rw [if_pos (by rfl)]
              go_simp
              exact hK _ _ (Below.refl _ _) rfl
            · refine @id (StepS _ _ _ _ _ _ _ _ _ _ _) ?_
              intro ys wx hw hS hd K hK
              have k9 := hd 9 (by decide)
              change (Rg RdIs wI.heap.size [i]) wx (ys 9) at k9
              have e10 : ys 10 = _ := hd 10 (by decide)
              simp only [putL, Act.put, List.setIfInBounds_toArray, List.set_cons_zero, List.set_cons_succ, Nat.zero_add, Nat.reduceAdd, e10] at hK ⊢
              rw [if_pos (by rfl)]
              have k9' : RdIs wx (fun q => wI.heap.size ≤ q ∧ q < wx.heap.size) (ys 9) [i] := k9
              obtain ⟨A9, c9, hy, _, _⟩ := k9'.shape
              rw [hy] at k9'
              simp only [hy] at hK ⊢
              clear k9 hy
              obtain ⟨x0, x1, x2, x3⟩ := (hS.1 rfl).1.two
              have hbs := (Below.refl (w.heap.size + 1 + 1) wx).setCell (p := ⟨w.heap.size + 1 + 1, 1, none⟩) (Nat.le_refl _) (.slice A9 1 c9)
              have f1 := (hS.1 rfl).1.set_ 1 (.slice A9 1 c9)
              have f2 := okIs.setc k9' (b := w.heap.size + 1 + 1) (j := 1) (v := .slice A9 1 c9) (fun q hq => by omega)
              have f3 := hS.2.2.1.far (b' := w.heap.size + 1 + 1) (j := 1) (v := .slice A9 1 c9) (by omega)
              have f4 := okDISKS.setc hS.2.2.2 (b := w.heap.size + 1 + 1) (j := 1) (v := .slice A9 1 c9) (fun q hq => by omega)
              go_simp
              exact hK undef _ hbs ⟨fun e => absurd e (by decide), fun _ => ⟨_, f1, okIs.mono f2 fun q hq => hq.1⟩, f3, f4⟩ trivial ⟨fun _ h => h, fun _ h => h, fun _ h => h, fun _ h => h, fun _ h => h, fun _ h => h, fun _ _ => trivial, fun _ _ => trivial, fun _ _ => trivial, fun _ _ => trivial, fun _ h => h, fun _ h => h, trivial⟩
          · intro ys w' hl' hS' hV
            clear hV
            simp only [putL, Act.put, List.setIfInBounds_toArray, List.set_cons_zero, List.set_cons_succ, Nat.zero_add, Nat.reduceAdd]
            obtain ⟨iv, n1, n2⟩ := hS'.2.1 rfl
            have n3 : BoxAt _ (w.heap.size + 1) _ _ := HI.out.2.2.1.keep hl' (by omega)
            have n5 := HI.out.2.2.2.2.1.trans (hl'.mono (by omega))
            have HN := Lib.hid (And.intro n1 (And.intro (okIs.mono n2 (F' := fun q => BI ≤ q) fun q hq => by omega) (And.intro hS'.2.2.2 (And.intro n3 n5))))
            clear n1 n2 n3 n5 hS' hl'
            go_wp2
            go_roundw
            case rel => exact .inr ⟨by go_num, iv, HN.out.1, by rw [hBIe]; exact HN.out.2.1, by rw [hBIe]; exact HN.out.2.2.1, HN.out.2.2.2.1, HN.out.2.2.2.2⟩
            case measure => simp [intOf]
        · obtain ⟨A9, c9, rfl, _, _⟩ := hI3.shape
          obtain ⟨x0, x1, x2, x3⟩ := hX3.two
          obtain ⟨z0, z1, z2, z3⟩ := hZ3.two
          have f1 : DISKS (set2 wr (w.heap.size + 1) (.slice (some ⟨g, 0, none⟩) 4 cg) (.slice A9 1 c9)) _ _ _ := okDISKS.set2 hO3 (b := w.heap.size + 1) fun k hk => by omega
          have f3 : RdIs (set2 wr (w.heap.size + 1) (.slice (some ⟨g, 0, none⟩) 4 cg) (.slice A9 1 c9)) _ _ _ := okIs.set2 hI3 (b := w.heap.size + 1) fun k hk => by omega
          have f2 := hB3.trans (below_set2 (b := w.heap.size + 1) (v0 := .slice (some ⟨g, 0, none⟩) 4 cg) (v1 := .slice A9 1 c9) (Nat.le_succ _))
          have HF := Lib.hid (And.intro (okDISKS.mono f1 (F' := fun k => w.heap.size ≤ k ∧ k < w2.heap.size) fun k hk => by omega) (And.intro (okIs.mono f3 (F' := fun k => w.heap.size ≤ k ∧ w2.heap.size ≤ k) fun k hk => by omega) f2))
          clear hX3 hO3 hZ3 hB3 hI3 f1 f2 f3 H1 hX2 hO2 hZ2 hB2
          go_wp2_with fail
          exact bodyPost_ret (v := .agg #[.slice (some ⟨g, 0, none⟩) 4 cg, .slice A9 1 c9]) (by simp [results, Tryd.results36, go_sem, *]) rfl ⟨_, _, _, rfl, HF.out.1, HF.out.2.1, HF.out.2.2⟩
end Go.Proofs.YtdcmbdghnkgghaaDoor

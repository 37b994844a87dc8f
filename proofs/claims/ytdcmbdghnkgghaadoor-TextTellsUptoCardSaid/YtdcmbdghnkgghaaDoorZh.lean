/- Merged: C10 C11 C12 C13. -/
import Derived.Test.YtdcmbdghnkgghaaDoorZf
import Derived.Test.YtdcmbdghnkgghaaDoorZe
import Derived.Test.YtdcmbdghnkgghaaDoorZg
namespace Go.Proofs.YtdcmbdghnkgghaaDoor
set_option linter.unusedVariables false
open Go Go.RowKit M
/-- A cell's bytes, that may be stored into; a row of them, that lie apart. -/
abbrev CELL : Rel Bs := OwnV R8 5
theorem okCELL : Ok CELL := okV ok8
abbrev ROW : Rel (List Bs) := OwnL CELL 22
theorem okROW : Ok ROW := okO okCELL
abbrev DISKS : Rel (List (List Bs)) := OwnL ROW 38
theorem okDISKS : Ok DISKS := okO okROW
theorem cell_rd {w : World} {F : Fp} {v : Value} {b : Bs} (h : CELL w F v b) : RdB w F v b := OwnV.toRd ok8 h
theorem row_rd {w : World} {F : Fp} {v : Value} {l : List Bs} (h : ROW w F v l) : RdBB w F v l := h.toRd okCELL (fun hx => cell_rd hx) okB
theorem disks_rd {w : World} {F : Fp} {v : Value} {D : List (List Bs)} (h : DISKS w F v D) : RdBBB w F v D := h.toRd okROW (fun hx => row_rd hx) okBB
/-- AT A STEP 'append(v, x)' of a statement that draws its order: the elements lie apart, x is newer than they. -/
theorem wp_append_apart {α : Type} {R : Rel α} {e : TypeId} {bytes : Nat} {w0 w : World} {o : Oper} {a : Act} {Q : Exit → Act → World → Prop} {K : Act → World → Prop} (s x : Operand) (t : TypeId)
    (ho : o.op = .call { callee := .builtin .append, args := #[s, x], argTypes := #[t, t] }) (ok : Ok R) (T : SlTy Tryd.prog t e bytes) (base : Nat) (v xv : Value) (xs : List α) (y : α)
    (hs : a.eval s = v) (hx : a.eval x = xv) (hown : OwnL R e w0 (fun k => base ≤ k) v xs) (hg : Below w0.heap.size w0 w) (hsrc : RdL R w (fun k => w0.heap.size ≤ k) xv [y])
    (hbytes : (xs.length + 1) * bytes ≤ 140737488355328) (hbase : base ≤ w0.heap.size)
    (h : ∀ v' w', OwnL R e w' (fun k => base ≤ k) v' (xs ++ [y]) → Below base w w' → w.grownBy w' v.ownBlock → (v'.ownBlock = v.ownBlock ∨ v'.ownBlock = some w.heap.size) → K (a.put o.dst v') w') : Oper.wp Tryd.prog o a w K Q := by
  have hsz := hg.size
  obtain ⟨fs, h1, h2, h3⟩ := (okO ok).lt hown
  have h4 := (okV (okG ok)).grow h3 hg
  have hb : Bld (G1 R) e w base (fun k => base ≤ k) v (xs.zip fs) := (h4.bld fun k hk => hk.1).mono (okG ok) fun k _ hk => hk.1
  have hold := h3.1.blk
  have hlz : (xs.zip fs).length = xs.length := by simp [h1]
  have hsrc' : RdL (G1 R) w (fun k => some k ≠ v.ownBlock ∧ base ≤ k) xv [(y, fun k => w0.heap.size ≤ k ∧ k < w.heap.size)] := by
    obtain ⟨us, r1, r2, r3⟩ := hsrc
    refine ⟨us, r1.mono fun k hk => ⟨fun ek => by have := (hold k ek.symm).2; omega, by omega⟩, by simpa using r2, fun j u z hu hz => ?_⟩
    match j with
    | 0 =>
      simp at hz
      subst hz
      exact ⟨ok.lt (r3 0 u y hu rfl), fun k hk => ⟨⟨fun ek => by have := (hold k ek.symm).2; omega, by omega⟩, hk.2⟩⟩
    | j + 1 => simp at hz
  refine wp_append_bld s x t ho (okG ok) T base (fun k => base ≤ k) v xv (xs.zip fs) [(y, fun k => w0.heap.size ≤ k ∧ k < w.heap.size)] hs hx hb hsrc' (by rw [hlz]; simpa using hbytes) (by omega) ?_
  intro v' w' g1 g2 g3 g4
  refine h v' w' ⟨fs ++ [fun k => w0.heap.size ≤ k ∧ k < w.heap.size], by simp [h1], h2.snoc fun g hgm k hk => ?_, OwnV.of (by rw [List.zip_append h1.symm]; exact g1) (okG ok) (fun k hk => hk) (fun k hk => hk)⟩ g2 g3 g4
  obtain ⟨j, hj, rfl⟩ := List.getElem_of_mem hgm
  obtain ⟨us, r1, r2, r3⟩ := h3.1
  have hju : j < us.length := by simp at r2; omega
  have := (r3 j us[j] (xs[j]'(by omega), fs[j]) (List.getElem?_eq_getElem hju) (by rw [List.getElem?_eq_getElem (by simp; omega)]; simp)).2 k hk
  have hlt := this.1.2.2
  omega
/-- It reads as x, from block B on. -/
def Rg {α : Type} (R : Rel α) (B : Nat) (x : α) : Know := fun w v => R w (fun k => B ≤ k ∧ k < w.heap.size) v x
theorem mRg {α : Type} {R : Rel α} (o : Ok R) (B : Nat) (x : α) : Mono (Rg R B x) := fun _ _ _ hb h => o.old h hb fun _ hk _ => ⟨hk.1, Nat.lt_of_lt_of_le hk.2 hb.size⟩
def Rf {α : Type} (R : Rel α) (F : Fp) (x : α) : Know := fun w v => R w F v x
theorem mRf {α : Type} {R : Rel α} (o : Ok R) (F : Fp) (x : α) : Mono (Rf R F x) := fun _ _ _ hb h => o.grow h hb
theorem okROWS : Ok (RdL ROW) := okL okROW
set_option maxHeartbeats 800000 in
theorem array_own (l : List Bs) (v : Value) (F : Fp) (w : World) (h : RdBB w F v l) (hn : l.length ≤ 200) (h8 : ∀ c ∈ l, c.length ≤ 1000) :
    Calls Tryd.prog 63 #[v] w fun e w' => ∃ v', e = .returned v' ∧ ROW w' (fun k => w.heap.size ≤ k) v' l ∧ Below w.heap.size w w' := by
  obtain ⟨A, c, rfl, _, hm⟩ := h.shape
  unfold maxLen at hm
  have H8 := Lib.hid h8
  clear h8
  go_enter Tryd.func63, Tryd.ntmps63
  go_wp2_with fail
  go_loopw [3, 8] (fun u i wr => ∃ k : Nat, k ≤ l.length ∧ i = .int .i64 k ∧ OwnL CELL 22 wr (fun k => w.heap.size ≤ k) u (l.take k) ∧ Below w.heap.size w wr) (fun _ i _ => l.length - (intOf i).toNat)
  case atStart => exact ⟨0, Nat.zero_le _, rfl, OwnL.nil_ _ _ _ _, Below.refl _ _⟩
  case round =>
    obtain ⟨k, hk, rfl, hO, hlw⟩ := hrel
    have HLW := Lib.hid hlw
    by_cases hlt : k < l.length
    · obtain ⟨b, off, u, rfl, _, hu, hR⟩ := (okBB.grow h hlw).at_ hlt
      obtain ⟨A2, c2, rfl, _, _⟩ := hR.shape
      have HX := Lib.hid (show l.take k ++ [l[k]] = l.take (k + 1) by rw [List.take_succ_eq_append_getElem hlt])
      have HT := Lib.hid (show ((l.take k).length + 1) * 24 ≤ 140737488355328 by rw [List.length_take]; omega)
      have HL := Lib.hid (H8.out _ (List.getElem_mem hlt))
      have HO := Lib.hid hO
      clear hO hlw
      go_wp2_with fail
      refine (clone_B l[k] _ _ _ hR HL.out).mono ?_
      rintro e w2 ⟨v2, rfl, hv2, hb2⟩
      have hr2 : CELL w2 (fun k => wr.heap.size ≤ k) v2 l[k] := OwnV.of (hv2.bytes (G' := fun k => wr.heap.size ≤ k)) ok8 (fun _ hk => hk) (fun _ hk => hk)
      obtain ⟨A3, c3, rfl, _, _⟩ := (cell_rd hr2).shape
      have HR2 := Lib.hid hr2
      have HB2 := Lib.hid hb2
      clear hv2 hr2 hb2 hR
      go_wp2_with (at_builtin; refine wpList_append_apart rfl _ _ 38 rfl okCELL slBB w.heap.size _ _ l[k] _ rfl (by rfl) (by rfl) HO.out HB2.out HR2.out HT.out HLW.out.size ?c1)
      case c1 =>
      intro v' w' hB hb

      go_wp2
      go_roundw
      case rel => exact ⟨k + 1, by omega, by go_num, hB, HLW.out.trans ((HB2.out.mono HLW.out.size).trans hb)⟩
      case measure => simp [intOf]; omega
    · obtain rfl : k = l.length := by omega
      rw [List.take_length] at hO
      go_wp2
      go_ret
      exact ⟨_, rfl, hO, hlw⟩
set_option maxRecDepth 100000 in
set_option maxHeartbeats 1600000 in
theorem array_Own0 (a : Arr) (v : Value) (F : Fp) (w : World) (h : RdA w F v a) (hsh : Shape a.disks) (hno : a.ints = []) :
    Calls Tryd.prog 36 #[v] w fun e w' => ∃ dv, e = .returned (.agg #[dv, .slice none 0 0]) ∧ DISKS w' (fun k => w.heap.size ≤ k) dv a.disks ∧ Below w.heap.size w w' := by
  obtain ⟨b0, o0, c0, Ai, ci, rfl, hD, hI, hc0, hc1⟩ := RdA_open h hsh
  rw [show a.ints.length = 0 by rw [hno]; rfl] at *
  obtain ⟨w1, hW, hA, hZ, hX, hB, hsz⟩ := boxes3 w [.slice (some ⟨b0, o0, none⟩) 4 c0, .slice Ai 0 ci] [.slice none 0 0, .slice none 0 0] [.slice none 0 0, .slice none 0 0] 37 37 37
  change (((w.alloc (.cells #[.slice (some ⟨b0, o0, none⟩) 4 c0, .slice Ai 0 ci] 37)).alloc (.cells #[.slice none 0 0, .slice none 0 0] 37)).alloc (.cells #[.slice none 0 0, .slice none 0 0] 37)) = w1 at hW
  obtain ⟨x0, x1, x2, x3⟩ := hA.two
  have HSZ := Lib.hid hsz
  have HS := Lib.hid hsh
  clear hI h hno hsh hsz
  go_enter Tryd.func36, Tryd.ntmps36
  go_wp2_with fail
  clear hW x0 x1 x2 x3
  go_loopw [11] (fun i wr => ∃ k : Nat, k ≤ 4 ∧ i = .int .i64 k ∧ (∃ dv, BoxAt wr (w.heap.size + 1 + 1) 37 [dv, .slice none 0 0] ∧ DISKS wr (fun k => w.heap.size + 3 ≤ k) dv (a.disks.take k)) ∧ BoxAt wr w.heap.size 37 [.slice (some ⟨b0, o0, none⟩) 4 c0, .slice Ai 0 ci] ∧ BoxAt wr (w.heap.size + 1) 37 [.slice none 0 0, .slice none 0 0] ∧ Below w.heap.size w wr ∧ w.heap.size + 3 ≤ wr.heap.size) (fun i _ => 4 - (intOf i).toNat)
  case atStart => exact ⟨0, Nat.zero_le _, rfl, ⟨_, hX, OwnL.nil_ _ _ _ _⟩, hA, hZ, hB, by rw [HSZ.out]; exact Nat.le_refl _⟩
  case round =>
    obtain ⟨k, hk, rfl, ⟨dv, hX1, hO1⟩, hA1, hZ1, hB1, hs1⟩ := hrel
    obtain ⟨x0, x1, x2, x3⟩ := hA1.two
    by_cases hlt : k < 4
    · obtain ⟨b, off, u, e1, _, hu, hR⟩ := (okBBB.grow hD hB1).at_ (k := k) (by rw [HS.out.1]; exact hlt)
      injection e1 with e1
      injection e1 with e2 e3
      subst e2; subst e3
      obtain ⟨row, hrow⟩ : ∃ r, a.disks[k]'(by rw [HS.out.1]; exact hlt) = r := ⟨_, rfl⟩
      rw [hrow] at hR
      have hrm := HS.out.2 row (by rw [← hrow]; exact List.getElem_mem _)
      obtain ⟨Ar, cr, rfl, _, _⟩ := hR.shape
      have HX := Lib.hid (show a.disks.take k ++ [row] = a.disks.take (k + 1) by rw [List.take_succ_eq_append_getElem (by rw [HS.out.1]; exact hlt), hrow])
      have HT := Lib.hid (show ((a.disks.take k).length + 1) * 24 ≤ 140737488355328 by rw [List.length_take]; omega)
      obtain ⟨Av, cv, rfl, _, _⟩ := (disks_rd hO1).shape
      have htk : (a.disks.take k).length = k := by rw [List.length_take, HS.out.1]; omega
      rw [htk] at hX1 hO1
      have H1 := Lib.hid (And.intro hX1 (And.intro hO1 (And.intro hA1 (And.intro hZ1 (And.intro hB1 hs1)))))
      have HR := Lib.hid hR
      have HRM := Lib.hid hrm
      clear hX1 hO1 hZ1 hA1 hR hrow hrm hB1
      go_wp2_with fail
      clear x0 x1 x2 x3 hu
      refine region_three (w.heap.size + 1 + 1) [Ck (.pointer (some ⟨w.heap.size + 1 + 1, 0, none⟩)), Ck (.slice Av k cv), Ck (.slice Ar row.length cr), Ek 0 (Rg ROW wr.heap.size row), Ek 0 (Rg (RdL ROW) wr.heap.size [row]), Fk 1 (Rf DISKS (fun q => w.heap.size + 3 ≤ q) (a.disks.take (k + 1))), Ck (.pointer (some ⟨w.heap.size + 1 + 1, 0, none⟩)), Tk] (fun m wx => (m ≤ 1 → BoxAt wx (w.heap.size + 1 + 1) 37 [.slice Av k cv, .slice none 0 0]) ∧ (m = 0 → Below wr.heap.size wr wx) ∧ (m = 2 → ∃ dv', BoxAt wx (w.heap.size + 1 + 1) 37 [dv', .slice none 0 0] ∧ DISKS wx (fun q => w.heap.size + 3 ≤ q) dv' (a.disks.take (k + 1))) ∧ w.heap.size + 3 ≤ wx.heap.size) [5, 7] (by kernel_rfl) (by kernel_rfl) (by kernel_rfl) (by kernel_rfl) (by kernel_rfl) ?_ ?_ (fun m w w' hb h => ⟨fun e => (h.1 e).grow hb, fun e => (h.2.1 e).trans (hb.mono (h.2.1 e).size), fun e => (h.2.2.1 e).imp fun dv hv => ⟨hv.1.grow hb, okDISKS.grow hv.2 hb⟩, Nat.le_trans h.2.2.2 hb.size⟩) (⟨fun _ => H1.out.1, fun _ => Below.refl _ _, fun h => absurd h (by decide), hs1⟩) ?_ ?_
      · first | exact Nat.le_refl _ | assumption | omega
      · repeat (first | exact trivial | refine ⟨mCk _, ?_⟩ | refine ⟨mTk, ?_⟩ | refine ⟨mEk _ (by first | exact mC _ | exact mT | exact mR okB _ | exact mR okBB _ | exact mR okBBB _ | exact mRn okB _ _ | exact mRn okBB _ _ | exact mOw _ _ _ _ | exact mRm okB _ _ _ | exact mRa _ _ | exact mRg okROW _ _ | exact mRg okROWS _ _ | exact mRf okDISKS _ _ | exact mRg okCELL _ _ | exact mRg okBB _ _ | exact mRg okB _ _ | exact mRg okIs _ _ | exact mRi _ _ | exact mOx _ _), ?_⟩ | refine ⟨mFk _ (by first | exact mC _ | exact mT | exact mR okB _ | exact mR okBB _ | exact mR okBBB _ | exact mRn okB _ _ | exact mRn okBB _ _ | exact mOw _ _ _ _ | exact mRm okB _ _ _ | exact mRa _ _ | exact mRg okROW _ _ | exact mRg okROWS _ _ | exact mRf okDISKS _ _ | exact mRg okCELL _ _ | exact mRg okBB _ _ | exact mRg okB _ _ | exact mRg okIs _ _ | exact mRi _ _ | exact mOx _ _), ?_⟩ | refine ⟨fun _ => (by first | exact mC _ | exact mT | exact mR okB _ | exact mR okBB _ | exact mR okBBB _ | exact mRn okB _ _ | exact mRn okBB _ _ | exact mOw _ _ _ _ | exact mRm okB _ _ _ | exact mRa _ _ | exact mRg okROW _ _ | exact mRg okROWS _ _ | exact mRf okDISKS _ _ | exact mRg okCELL _ _ | exact mRg okBB _ _ | exact mRg okB _ _ | exact mRg okIs _ _ | exact mRi _ _ | exact mOx _ _), ?_⟩)
      · simp only [StepsL3]
        refine ⟨?_, ?_, ?_, ?_, ?_, ?_, ?_, ?_, trivial⟩
        · refine @id (StepG _ _ _ _ _ _ _ _ _ _ _) ?_
          intro nst ys wx hn hmay hw hS hd
          intro K hK
          simp only [putL, Act.put, List.setIfInBounds_toArray, List.set_cons_zero, List.set_cons_succ, Nat.zero_add, Nat.reduceAdd] at hK ⊢
          rw [if_pos (by rfl)]
          go_simp
          exact hK _ _ (Below.refl _ _) rfl
        · refine @id (StepG _ _ _ _ _ _ _ _ _ _ _) ?_
          intro nst ys wx hn hmay hw hS hd
          obtain rfl : nst = 0 := may_one hmay hn (by kernel_rfl)
          intro K hK
          have e0 : ys 0 = _ := hd 0 (by decide)
          simp only [putL, Act.put, List.setIfInBounds_toArray, List.set_cons_zero, List.set_cons_succ, Nat.zero_add, Nat.reduceAdd, e0] at hK ⊢
          rw [if_pos (by rfl)]
          obtain ⟨x0, x1, x2, x3⟩ := (hS.1 (by decide)).two
          go_simp
          exact hK _ _ (Below.refl _ _) rfl
        · refine @id (StepG _ _ _ _ _ _ _ _ _ _ _) ?_
          intro nst ys wx hn hmay hw hS hd
          intro K hK
          simp only [putL, Act.put, List.setIfInBounds_toArray, List.set_cons_zero, List.set_cons_succ, Nat.zero_add, Nat.reduceAdd] at hK ⊢
          rw [if_pos (by rfl)]
          go_simp
          exact hK _ _ (Below.refl _ _) rfl
        · refine @id (StepG _ _ _ _ _ _ _ _ _ _ _) ?_
          intro nst ys wx hn hmay hw hS hd
          obtain rfl : nst = 0 := may_one hmay hn (by kernel_rfl)
          intro K hK
          have e2 : ys 2 = _ := hd 2 (by decide)
          simp only [putL, Act.put, List.setIfInBounds_toArray, List.set_cons_zero, List.set_cons_succ, Nat.zero_add, Nat.reduceAdd, e2] at hK ⊢
          rw [if_pos (by rfl)]
          go_simp
          refine (array_own row _ _ _ (okBB.grow (okBB.lt HR.out) (hS.2.1 rfl)) (by rw [HRM.out.1]; decide) (fun c hc => Nat.le_trans (HRM.out.2 c hc) (by decide))).mono ?_
          rintro e w' ⟨v', rfl, hv', hb'⟩
          exact hK _ _ hb' (okROW.mono (okROW.lt hv') fun q hq => ⟨Nat.le_trans (hS.2.1 rfl).size hq.1, hq.2⟩)
        · refine @id (StepG _ _ _ _ _ _ _ _ _ _ _) ?_
          intro nst ys wx hn hmay hw hS hd
          obtain rfl : nst = 0 := may_one hmay hn (by kernel_rfl)
          intro K hK
          have k3 := hd 3 (by decide)
          change (Rg ROW wr.heap.size row) wx (ys 3) at k3
          simp only [putL, Act.put, List.setIfInBounds_toArray, List.set_cons_zero, List.set_cons_succ, Nat.zero_add, Nat.reduceAdd] at hK ⊢
          rw [if_pos (by rfl)]
          have k3' : ROW wx (fun q => wr.heap.size ≤ q ∧ q < wx.heap.size) (ys 3) row := k3
          obtain ⟨A3, c3, hy, _, _⟩ := (row_rd k3').shape
          rw [hy] at k3'
          simp only [hy] at hK ⊢
          clear k3 hy
          have hso := (hS.2.1 rfl).size
          go_simp
          exact hK _ _ (below_alloc _ _) (okROWS.lt (RdL.one_ okROW (F := fun q => wr.heap.size ≤ q) (okROW.mono k3' fun q hq => hq.1) _ hso))
        · refine @id (StepS _ _ _ _ _ _ _ _ _ _ _) ?_
          intro ys wx hw hS hd K hK
          have e1 : ys 1 = _ := hd 1 (by decide)
          have k4 := hd 4 (by decide)
          change (Rg (RdL ROW) wr.heap.size [row]) wx (ys 4) at k4
          simp only [putL, Act.put, List.setIfInBounds_toArray, List.set_cons_zero, List.set_cons_succ, Nat.zero_add, Nat.reduceAdd, e1] at hK ⊢
          rw [if_pos (by rfl)]
          have k4' : RdL ROW wx (fun q => wr.heap.size ≤ q ∧ q < wx.heap.size) (ys 4) [row] := k4
          refine wp_append_apart _ _ 34 (by rfl) okROW slBBB (w.heap.size + 3) (.slice Av k cv) (ys 4) (a.disks.take k) row (by rfl) (by rfl) H1.out.2.1 (hS.2.1 rfl) (okROWS.mono k4' fun q hq => hq.1) HT.out hs1 ?_
          intro v' w' g1 g2 g3 g4
          rw [HX.out] at g1
          have hne : some (w.heap.size + 1 + 1) ≠ (Value.slice Av k cv).ownBlock := fun e => by have := (H1.out.2.1.blk _ e.symm).1; omega
          exact hK _ _ (g2.mono (by omega)) ⟨fun _ => (g3.block _ (hS.1 (by decide)).lt hne).trans (hS.1 (by decide)), fun e => absurd e (by decide), fun e => absurd e (by decide), Nat.le_trans hS.2.2.2 g2.size⟩ g1 ⟨fun _ h => h, fun _ h => h, fun _ h => h, fun _ _ => trivial, fun _ _ => trivial, fun _ h => h.elim, fun _ h => h, fun _ h => h, trivial⟩
        · refine @id (StepG _ _ _ _ _ _ _ _ _ _ _) ?_
          intro nst ys wx hn hmay hw hS hd
          intro K hK
          simp only [putL, Act.put, List.setIfInBounds_toArray, List.set_cons_zero, List.set_cons_succ, Nat.zero_add, Nat.reduceAdd] at hK ⊢
          rw [if_pos (by rfl)]
          go_simp
          exact hK _ _ (Below.refl _ _) rfl
        · refine @id (StepS _ _ _ _ _ _ _ _ _ _ _) ?_
          intro ys wx hw hS hd K hK
          have k5 := hd 5 (by decide)
          change (Rf DISKS (fun q => w.heap.size + 3 ≤ q) (a.disks.take (k + 1))) wx (ys 5) at k5
          have e6 : ys 6 = _ := hd 6 (by decide)
          simp only [putL, Act.put, List.setIfInBounds_toArray, List.set_cons_zero, List.set_cons_succ, Nat.zero_add, Nat.reduceAdd, e6] at hK ⊢
          rw [if_pos (by rfl)]
          have k5' : DISKS wx (fun q => w.heap.size + 3 ≤ q) (ys 5) (a.disks.take (k + 1)) := k5
          obtain ⟨g, cg, hy, _, _, _, _⟩ := k5'.form (by rw [List.length_take, HS.out.1]; omega)
          rw [show (a.disks.take (k + 1)).length = k + 1 by rw [List.length_take, HS.out.1]; omega] at hy
          rw [hy] at k5'
          simp only [hy] at hK ⊢
          clear k5
          obtain ⟨x0, x1, x2, x3⟩ := (hS.1 (by decide)).two
          have hbs := (Below.refl (w.heap.size + 1 + 1) wx).setCell (p := ⟨w.heap.size + 1 + 1, 0, none⟩) (Nat.le_refl _) (.slice (some ⟨g, 0, none⟩) (k + 1) cg)
          have f1 := (hS.1 (by decide)).set_ 0 (.slice (some ⟨g, 0, none⟩) (k + 1) cg)
          have f2 := okDISKS.setc k5' (b := w.heap.size + 1 + 1) (j := 0) (v := .slice (some ⟨g, 0, none⟩) (k + 1) cg) (fun q hq => by omega)
          have f3 : w.heap.size + 3 ≤ (wx.setCell ⟨w.heap.size + 1 + 1, 0, none⟩ (.slice (some ⟨g, 0, none⟩) (k + 1) cg)).heap.size := by rw [setCell_size]; exact hS.2.2.2
          go_simp
          exact hK undef _ hbs ⟨fun e => absurd e (by decide), fun e => absurd e (by decide), fun _ => ⟨_, f1, f2⟩, f3⟩ trivial ⟨fun _ h => h, fun _ h => h, fun _ h => h, fun _ h => h, fun _ h => h, fun _ h => okDISKS.setc h (fun q hq => by omega), fun _ h => h, fun _ h => h, trivial⟩
      · intro ys w' hl' hS' hV
        clear hV
        simp only [putL, Act.put, List.setIfInBounds_toArray, List.set_cons_zero, List.set_cons_succ, Nat.zero_add, Nat.reduceAdd]
        obtain ⟨dv', n1, n2⟩ := hS'.2.2.1 rfl
        have hle : w.heap.size + 1 + 1 ≤ wr.heap.size := by omega
        have n3 : BoxAt _ w.heap.size _ _ := H1.out.2.2.1.keep hl' (by omega)
        have n4 : BoxAt _ (w.heap.size + 1) _ _ := H1.out.2.2.2.1.keep hl' (by omega)
        have n5 := H1.out.2.2.2.2.1.trans (hl'.mono (by omega))
        have HN := Lib.hid (And.intro n1 (And.intro n2 (And.intro n3 (And.intro n4 (And.intro n5 hS'.2.2.2)))))
        clear n1 n2 n3 n4 n5 hS' hl'
        go_wp2
        go_roundw
        case rel => exact ⟨k + 1, by omega, by go_num, ⟨_, HN.out.1, HN.out.2.1⟩, HN.out.2.2.1, HN.out.2.2.2.1, HN.out.2.2.2.2.1, HN.out.2.2.2.2.2⟩
        case measure => simp [intOf]; omega
    · obtain rfl : k = 4 := by omega
      rw [List.take_of_length_le (by rw [HS.out.1]; exact Nat.le_refl _)] at hO1
      have H1 := Lib.hid (And.intro hX1 (And.intro hO1 (And.intro hZ1 (And.intro hB1 hs1))))
      clear hX1 hO1 hZ1 hB1 hs1 hk hlt
      go_wp2_with fail
      rename World => w2
      go_loopw [26] (fun i wr => i = .int .i64 0 ∧ wr = w2) (fun _ _ => 0)
      case atStart => exact ⟨rfl, rfl⟩
      case round =>
        obtain ⟨rfl, rfl⟩ := hrel
        obtain ⟨hX1, hO1, hZ1, hB1, hs1⟩ := H1.out
        obtain ⟨x0, x1, x2, x3⟩ := hX1.two
        obtain ⟨z0, z1, z2, z3⟩ := hZ1.two
        obtain ⟨g, c, rfl, _, _, _, _⟩ := hO1.form (by rw [HS.out.1]; decide)
        rw [HS.out.1] at *
        have f1 : DISKS (set2 wr (w.heap.size + 1) (.slice (some ⟨g, 0, none⟩) 4 c) (.slice none 0 0)) _ _ _ := okDISKS.set2 hO1 (b := w.heap.size + 1) fun k hk => by omega
        have f2 := hB1.trans (below_set2 (b := w.heap.size + 1) (v0 := .slice (some ⟨g, 0, none⟩) 4 c) (v1 := .slice none 0 0) (Nat.le_succ _))
        have HF := Lib.hid (And.intro (okDISKS.mono f1 (F' := fun k => w.heap.size ≤ k) fun k hk => by omega) f2)
        clear hX1 hO1 hZ1 hB1 f1 f2 H1
        go_wp2_with fail
        exact bodyPost_ret (v := .agg #[.slice (some ⟨g, 0, none⟩) 4 c, .slice none 0 0]) (by simp [results, Tryd.results36, go_sem, *]) rfl ⟨_, rfl, HF.out.1, HF.out.2⟩
end Go.Proofs.YtdcmbdghnkgghaaDoor

namespace Go.Proofs.YtdcmbdghnkgghaaDoor
set_option linter.unusedVariables false
open Go Go.RowKit M
/-- One byte of one cell. -/
theorem disks_byte {w : World} {F : Fp} {g c : Nat} {D : List (List Bs)} (h : DISKS w F (.slice (some ⟨g, 0, none⟩) 4 c) D) (hs : Shape D) {d s n : Nat} (hd : d < 4) (hs3 : s < 3) (hn : n < (cellAt D d s).length) :
    ∃ g1 c1 g2 c2, w.cell? ⟨g, d, none⟩ = some (.slice (some ⟨g1, 0, none⟩) 3 c1) ∧ 3 ≤ c1 ∧ c1 ≤ maxLen ∧ w.cell? ⟨g1, s, none⟩ = some (.slice (some ⟨g2, 0, none⟩) (cellAt D d s).length c2) ∧ (cellAt D d s).length ≤ c2 ∧ c2 ≤ maxLen ∧
      w.cell? ⟨g2, n, none⟩ = some (.int .u8 (at8 (cellAt D d s) n)) ∧ w.frozen? ⟨g2, n, none⟩ = false ∧ F g2 ∧
      ∀ y : UInt8, DISKS (w.setCell ⟨g2, n, none⟩ (.int .u8 (y.toNat : Int))) F (.slice (some ⟨g, 0, none⟩) 4 c) (setA D d s ((cellAt D d s).set n y)) := by
  obtain ⟨r, hr, hrl, hrs, _⟩ := hs.cell hd hs3
  have hdl : d < D.length := by rw [hs.1]; exact hd
  have her : D[d] = r := (List.getElem?_eq_some_iff.1 hr).2
  obtain ⟨u1, f1, a1, a2, a3, a4, a5⟩ := h.inner okROW hdl
  rw [her] at a3
  obtain ⟨g1, c1, rfl, _, _, hc1, hc1m⟩ := a3.form (by omega)
  rw [hrl] at a1 a3 a5 hc1
  have hsl : s < r.length := by omega
  have hes : r[s] = cellAt D d s := (List.getElem?_eq_some_iff.1 hrs).2
  obtain ⟨u2, f2, b1, b2, b3, b4, b5⟩ := a3.inner okCELL hsl
  rw [hes] at b3
  obtain ⟨g2, c2, rfl, _, _, hc2, hc2m⟩ := b3.1.form (by omega)
  obtain ⟨u3, e1, e2, e3⟩ := b3.1.at_ hn
  have hg2 : f2 g2 := b3.2 g2 rfl
  have hu3 : u3 = .int .u8 (at8 (cellAt D d s) n) := by rw [at8_get hn]; exact e3
  subst hu3
  refine ⟨g1, c1, g2, c2, a1, hc1, hc1m, b1, hc2, hc2m, e1, e2, (a4 g2 (b4 g2 hg2).1).1, fun y => ?_⟩
  have hset : CELL (w.setCell ⟨g2, n, none⟩ (.int .u8 (y.toNat : Int))) f2 (.slice (some ⟨g2, 0, none⟩) (cellAt D d s).length c2) ((cellAt D d s).set n y) := ⟨b3.1.set_ ok8 hn rfl, b3.2⟩
  have hrow := b5 (w.setCell ⟨g2, n, none⟩ (.int .u8 (y.toNat : Int))) f2 ((cellAt D d s).set n y) (fun k _ hk _ => Below.heap_setCell w ⟨g2, n, none⟩ _ k fun e => hk (e ▸ hg2)) hset (fun k hk => ⟨.inl hk, by rw [setCell_size]; exact (b4 k hk).2.2⟩)
  have hrow' : ROW (w.setCell ⟨g2, n, none⟩ (.int .u8 (y.toNat : Int))) f1 (.slice (some ⟨g1, 0, none⟩) 3 c1) (r.set s ((cellAt D d s).set n y)) := okROW.mono hrow fun k hk => hk.elim id fun h => (b4 k h).1
  have htop := a5 (w.setCell ⟨g2, n, none⟩ (.int .u8 (y.toNat : Int))) f1 (r.set s ((cellAt D d s).set n y)) (fun k _ hk _ => Below.heap_setCell w ⟨g2, n, none⟩ _ k fun e => hk (e ▸ (b4 g2 hg2).1)) hrow' (fun k hk => ⟨.inl hk, by rw [setCell_size]; exact (a4 k hk).2.2⟩)
  have e5 : setA D d s ((cellAt D d s).set n y) = D.set d (r.set s ((cellAt D d s).set n y)) := by
    unfold setA
    rw [show D.getD d [] = r by simp [List.getD, hr]]
  rw [e5]
  exact okDISKS.mono htop fun k hk => hk.elim id fun h => (a4 k h).1
theorem xor_bits (b : Bs) (n : Nat) : bits BinOp.xor .u8 (at8 b n) 1 = ((b.getD n 0 ^^^ 1).toNat : Int) := by
  unfold at8
  have h := (b.getD n 0).toNat_lt
  rw [UInt8.toNat_xor]
  generalize (b.getD n 0).toNat = m at *
  revert m
  decide +kernel
theorem mk3BB (w : World) : (Instr.makeSlice 38 (.int .i64 3) (.int .i64 3)).run Tryd.prog w = .ok (.slice (some ⟨w.heap.size, 0, none⟩) 3 3) (w.alloc (.cells #[.slice none 0 0, .slice none 0 0, .slice none 0 0] 22)) := by kernel_rfl
theorem row_nil (w : World) : ROW (w.alloc (.cells #[.slice none 0 0, .slice none 0 0, .slice none 0 0] 22)) (fun k => w.heap.size ≤ k) (.slice (some ⟨w.heap.size, 0, none⟩) 3 3) [[], [], []] := by
  have hnil : ∀ (w : World) F, CELL w F (.slice none 0 0) [] := fun w F => ⟨Bld.nil_ _ _ _ _ _, fun k hk => by simp [Value.ownBlock] at hk⟩
  refine ⟨[fun _ => False, fun _ => False, fun _ => False], rfl, fun i j f g hi hj hij k hf => ?_, OwnV.of (Bld.lit (okG okCELL) (us := [.slice none 0 0, .slice none 0 0, .slice none 0 0]) (base := w.heap.size) (G := fun _ => False) 22 (Nat.le_refl _) rfl (by decide) fun j u x hu hx => ?_) (okG okCELL) (fun k hk => hk) (fun k hk => hk.elim)⟩
  · have := List.mem_of_getElem? hi
    simp at this
    rw [this] at hf
    exact hf.elim
  · match j with
    | 0 => simp at hu hx; subst hu; subst hx; exact ⟨hnil _ _, fun k hk => hk.elim⟩
    | 1 => simp at hu hx; subst hu; subst hx; exact ⟨hnil _ _, fun k hk => hk.elim⟩
    | 2 => simp at hu hx; subst hu; subst hx; exact ⟨hnil _ _, fun k hk => hk.elim⟩
    | j + 3 => simp at hu
set_option maxRecDepth 100000 in
set_option maxHeartbeats 1600000 in
theorem harm_Rot (a : Arr) (d s n : Int) (v : Value) (F : Fp) (w : World) (h : RdA w F v a) (hsh : Shape a.disks) (hno : a.ints = []) :
    Calls Tryd.prog 39 #[v, .int .i64 d, .int .i64 s, .int .i64 n] w fun e w' => ∃ v', e = .returned (.tuple #[v', .int .i64 (rotA a d s n).2]) ∧ RdA w' (fun k => w.heap.size ≤ k) v' (rotA a d s n).1 ∧ Below w.heap.size w w' := by
  obtain ⟨b0, o0, c0, Ai, ci, rfl, hD, hI, hc0, hc1⟩ := RdA_open h hsh
  obtain ⟨hA, hZ, hB, hsz⟩ := two_boxes w (.slice (some ⟨b0, o0, none⟩) 4 c0) (.slice Ai a.ints.length ci) 37
  have hAr : RdA _ (fun k => F k ∧ k < w.heap.size) (.agg #[.slice (some ⟨b0, o0, none⟩) 4 c0, .slice Ai a.ints.length ci]) a := ⟨_, _, rfl, okBBB.grow hD hB, okIs.grow hI hB⟩
  have HSZ := Lib.hid hsz
  have HS := Lib.hid hsh
  have HNO := Lib.hid hno
  obtain ⟨x0, x1, x2, x3⟩ := hA.two
  have HD := Lib.hid hD
  clear h hI hsz hsh hno hD
  go_enter Tryd.func39, Tryd.ntmps39
  go_wp2_with fail
  generalize (w.alloc (.cells #[.slice (some ⟨b0, o0, none⟩) 4 c0, .slice Ai a.ints.length ci] 37)).alloc (.cells #[.slice none 0 0, .slice none 0 0] 37) = w1 at *
  refine (array_Own0 a _ _ _ hAr HS.out HNO.out).mono ?_
  rintro e w2 ⟨dv, rfl, hO, hb2⟩
  rw [HSZ.out] at hO
  obtain ⟨g, cg, rfl, hg0, hg1, hcg, hcgm⟩ := hO.form (by rw [HS.out.1]; decide)
  rw [HS.out.1] at hO hcg ⊢
  unfold maxLen at hcgm
  have hal := below_alloc w2 (.cells #[.slice (some ⟨g, 0, none⟩) 4 cg, .slice none 0 0] 37)
  have hX := boxAt_new w2 37 [.slice (some ⟨g, 0, none⟩) 4 cg, .slice none 0 0]
  have hO3 := okDISKS.grow (okDISKS.lt hO) hal
  have hb3 := hb2.trans (hal.mono hb2.size)
  have hA3 := hA.grow hb3
  have hZ3 := hZ.grow hb3
  have hB3 := hB.trans (hb3.mono hB.size)
  have hsz2 : w.heap.size + 2 ≤ w2.heap.size := by have := hb2.size; have := HSZ.out; omega
  have HA0 := Lib.hid (And.intro hA3 (And.intro hZ3 (And.intro hB3 (And.intro hX (And.intro hO3 (okBBB.grow HD.out hB3))))))
  clear x0 x1 x2 x3 hal hb3 hA3 hZ3 hB3 hX hO3 hO hb2 hA hZ hB hAr hg0 hg1
  go_wp2_with fail
  change Hid (_ ∧ _ ∧ _ ∧ BoxAt (w2.alloc (.cells #[.slice (some ⟨g, 0, none⟩) 4 cg, .slice none 0 0] 37)) _ _ _ ∧ _ ∧ _) at HA0
  generalize w2.alloc (.cells #[.slice (some ⟨g, 0, none⟩) 4 cg, .slice none 0 0] 37) = w3 at *
  generalize w2.heap.size = BO at *
  obtain ⟨hA3, hZ3, hB3, hX, hO3, hD3⟩ := HA0.out
  have HA := Lib.hid (And.intro hA3 (And.intro hZ3 (And.intro hB3 (And.intro hX hO3))))
  clear hA3 hZ3 hB3 hX hO3 HA0
  refine (cell_There d s _).mono ?_
  rintro e w4 ⟨rfl, hw4⟩
  subst hw4
  obtain ⟨x0, x1, x2, x3⟩ := HA.out.1.two
  obtain ⟨z0, z1, z2, z3⟩ := HA.out.2.1.two
  obtain ⟨y0, y1, y2, y3⟩ := HA.out.2.2.2.1.two
  have hrd : RdA w3 (fun k => w.heap.size + 2 ≤ k ∧ k < BO) (.agg #[.slice (some ⟨g, 0, none⟩) 4 cg, .slice none 0 0]) a := ⟨_, _, rfl, disks_rd HA.out.2.2.2.2, by rw [HNO.out]; exact RdIs.nil_ _ _ _ _ (by decide)⟩
  have HRET := Lib.hid (ret_box (F' := fun k => w.heap.size ≤ k) HA.out.2.1 HA.out.2.2.1 (by omega) hrd (fun k hk => by omega) fun k hk => by omega)
  clear hrd
  by_cases hno : thereB d s = false ∨ n < 0
  · have HP := Lib.hid (rot_no_ (a := a) (d := d) (s := s) (n := n) (by rcases hno with h | h; exact .inl h; exact .inr (.inl h)))
    by_cases ht : thereB d s = true
    · have hn : n < 0 := by rcases hno with h | h; rw [ht] at h; cases h; exact h
      rw [ht]
      clear hno
      go_wp2_with fail
      exact bodyPost_ret (v := .tuple #[.agg #[.slice (some ⟨g, 0, none⟩) 4 cg, .slice none 0 0], .int .i64 6]) (by simp [results, Tryd.results39, go_sem, *]) rfl (by rw [HP.out]; exact ⟨_, rfl, HRET.out.1, HRET.out.2⟩)
    · have ht' : thereB d s = false := by simpa using ht
      rw [ht']
      clear hno
      go_wp2_with fail
      exact bodyPost_ret (v := .tuple #[.agg #[.slice (some ⟨g, 0, none⟩) 4 cg, .slice none 0 0], .int .i64 6]) (by simp [results, Tryd.results39, go_sem, *]) rfl (by rw [HP.out]; exact ⟨_, rfl, HRET.out.1, HRET.out.2⟩)
  simp only [not_or, Bool.not_eq_false] at hno
  obtain ⟨ht, hn0⟩ := hno
  obtain ⟨t1, t2, t3, t4⟩ := thereB_iff.1 ht
  obtain ⟨d, rfl⟩ := Int.eq_ofNat_of_zero_le t1
  obtain ⟨s, rfl⟩ := Int.eq_ofNat_of_zero_le t3
  obtain ⟨n, rfl⟩ := Int.eq_ofNat_of_zero_le (show 0 ≤ n by omega)
  have hd4 : d < 4 := by omega
  have hs3 : s < 3 := by omega
  obtain ⟨b1, o1, c1, A2, c2, hu1, hd1, hd2, hu2, hR2⟩ := disks_cell hD3 HS.out hd4 hs3
  unfold maxLen at hd2
  have hn0' : decide ((n : Int) < 0) = false := by simp
  rw [ht]
  by_cases hn : n < (cellAt a.disks d s).length
  rotate_left
  · have HP := Lib.hid (rot_no_ (a := a) (d := (d : Int)) (s := (s : Int)) (n := (n : Int)) (.inr (.inr (by simp only [Int.toNat_natCast]; omega))))
    have hle : decide ((cellAt a.disks d s).length ≤ n) = true := by simp; omega
    clear hR2 hD3 ht t1 t2 t3 t4 hn0 hn
    go_wp2_with fail
    exact bodyPost_ret (v := .tuple #[.agg #[.slice (some ⟨g, 0, none⟩) 4 cg, .slice none 0 0], .int .i64 6]) (by simp [results, Tryd.results39, go_sem, *]) rfl (by rw [HP.out]; exact ⟨_, rfl, HRET.out.1, HRET.out.2⟩)
  have HP := Lib.hid (rot_yes (a := a) hd4 hs3 hn)
  have hle : decide ((cellAt a.disks d s).length ≤ n) = false := by simp; omega
  obtain ⟨g1, k1, g2, k2, p1, p2, p3, p4, p5, p6, p7, p8, p9, p10⟩ := disks_byte HA.out.2.2.2.2 HS.out hd4 hs3 hn
  have hx1 := at8_lo (cellAt a.disks d s) n
  have hx2 := at8_hi (cellAt a.disks d s) n
  obtain ⟨cl, hcl⟩ : ∃ cl, cellAt a.disks d s = cl := ⟨_, rfl⟩
  rw [hcl] at p4 p5 p7 p10 hx1 hx2 hu2 hn hle HP
  clear z0 z1 z2 z3
  unfold maxLen at p3 p6
  have hbyte : bits BinOp.xor .u8 (at8 cl n) 1 = ((cl.getD n 0 ^^^ 1).toNat : Int) := xor_bits cl n
  have hD5 := p10 (cl.getD n 0 ^^^ 1)
  rw [← hbyte] at hD5
  have hX5 := HA.out.2.2.2.1.far (b' := g2) (j := n) (v := .int .u8 (bits BinOp.xor .u8 (at8 cl n) 1)) (by omega)
  have hZ5 := HA.out.2.1.far (b' := g2) (j := n) (v := .int .u8 (bits BinOp.xor .u8 (at8 cl n) 1)) (by omega)
  have hB5 := HA.out.2.2.1.setCell (p := ⟨g2, n, none⟩) (by show w.heap.size ≤ g2; omega) (.int .u8 (bits BinOp.xor .u8 (at8 cl n) 1))
  obtain ⟨w5, hw5⟩ : ∃ x, w3.setCell ⟨g2, n, none⟩ (.int .u8 (bits BinOp.xor .u8 (at8 cl n) 1)) = x := ⟨_, rfl⟩
  rw [hw5] at hD5 hX5 hZ5 hB5
  have hrd : RdA w5 (fun k => w.heap.size + 2 ≤ k ∧ k < BO) (.agg #[.slice (some ⟨g, 0, none⟩) 4 cg, .slice none 0 0]) ⟨setA a.disks d s (cl.set n (cl.getD n 0 ^^^ 1)), a.ints⟩ := ⟨_, _, rfl, disks_rd hD5, by show RdIs _ _ _ a.ints; rw [HNO.out]; exact RdIs.nil_ _ _ _ _ (by decide)⟩
  have HR5 := Lib.hid (ret_box (F' := fun k => w.heap.size ≤ k) hZ5 hB5 (by omega) hrd (fun k hk => by omega) fun k hk => by omega)
  obtain ⟨z0, z1, z2, z3⟩ := hZ5.two
  obtain ⟨q0, q1, q2, q3⟩ := hX5.two
  clear hR2 hD3 ht t1 t2 t3 t4 hn0 p10 HRET hbyte hD5 hX5 hZ5 hB5 hrd
  go_wp2_with fail
  exact bodyPost_ret (v := .tuple #[.agg #[.slice (some ⟨g, 0, none⟩) 4 cg, .slice none 0 0], .int .i64 0]) (by simp [results, Tryd.results39, go_sem, *]) rfl (by rw [HP.out]; exact ⟨_, rfl, HR5.out.1, HR5.out.2⟩)
set_option maxRecDepth 100000 in
set_option maxHeartbeats 1600000 in
theorem harm_Gone (a : Arr) (d : Int) (v : Value) (F : Fp) (w : World) (h : RdA w F v a) (hsh : Shape a.disks) (hno : a.ints = []) :
    Calls Tryd.prog 40 #[v, .int .i64 d] w fun e w' => ∃ v', e = .returned (.tuple #[v', .int .i64 (goneA a d).2]) ∧ RdA w' (fun k => w.heap.size ≤ k) v' (goneA a d).1 ∧ Below w.heap.size w w' := by
  obtain ⟨b0, o0, c0, Ai, ci, rfl, hD, hI, hc0, hc1⟩ := RdA_open h hsh
  obtain ⟨hA, hZ, hB, hsz⟩ := two_boxes w (.slice (some ⟨b0, o0, none⟩) 4 c0) (.slice Ai a.ints.length ci) 37
  have hAr : RdA _ (fun k => F k ∧ k < w.heap.size) (.agg #[.slice (some ⟨b0, o0, none⟩) 4 c0, .slice Ai a.ints.length ci]) a := ⟨_, _, rfl, okBBB.grow hD hB, okIs.grow hI hB⟩
  have HSZ := Lib.hid hsz
  have HS := Lib.hid hsh
  have HNO := Lib.hid hno
  obtain ⟨x0, x1, x2, x3⟩ := hA.two
  have HD := Lib.hid hD
  clear h hI hsz hsh hno hD
  go_enter Tryd.func40, Tryd.ntmps40
  go_wp2_with fail
  generalize (w.alloc (.cells #[.slice (some ⟨b0, o0, none⟩) 4 c0, .slice Ai a.ints.length ci] 37)).alloc (.cells #[.slice none 0 0, .slice none 0 0] 37) = w1 at *
  refine (array_Own0 a _ _ _ hAr HS.out HNO.out).mono ?_
  rintro e w2 ⟨dv, rfl, hO, hb2⟩
  rw [HSZ.out] at hO
  obtain ⟨g, cg, rfl, hg0, hg1, hcg, hcgm⟩ := hO.form (by rw [HS.out.1]; decide)
  rw [HS.out.1] at hO hcg ⊢
  unfold maxLen at hcgm
  have hal := below_alloc w2 (.cells #[.slice (some ⟨g, 0, none⟩) 4 cg, .slice none 0 0] 37)
  have hX := boxAt_new w2 37 [.slice (some ⟨g, 0, none⟩) 4 cg, .slice none 0 0]
  have hO3 := okDISKS.grow (okDISKS.lt hO) hal
  have hb3 := hb2.trans (hal.mono hb2.size)
  have hA3 := hA.grow hb3
  have hZ3 := hZ.grow hb3
  have hB3 := hB.trans (hb3.mono hB.size)
  have hsz2 : w.heap.size + 2 ≤ w2.heap.size := by have := hb2.size; have := HSZ.out; omega
  have HA0 := Lib.hid (And.intro hA3 (And.intro hZ3 (And.intro hB3 (And.intro hX (And.intro hO3 (okBBB.grow HD.out hB3))))))
  clear x0 x1 x2 x3 hal hb3 hA3 hZ3 hB3 hX hO3 hO hb2 hA hZ hB hAr hg0 hg1
  go_wp2_with fail
  change Hid (_ ∧ _ ∧ _ ∧ BoxAt (w2.alloc (.cells #[.slice (some ⟨g, 0, none⟩) 4 cg, .slice none 0 0] 37)) _ _ _ ∧ _ ∧ _) at HA0
  generalize w2.alloc (.cells #[.slice (some ⟨g, 0, none⟩) 4 cg, .slice none 0 0] 37) = w3 at *
  generalize w2.heap.size = BO at *
  obtain ⟨hA3, hZ3, hB3, hX, hO3, hD3⟩ := HA0.out
  have HA := Lib.hid (And.intro hA3 (And.intro hZ3 (And.intro hB3 (And.intro hX hO3))))
  clear hA3 hZ3 hB3 hX hO3 HA0
  refine (cell_There d 0 _).mono ?_
  rintro e w4 ⟨rfl, hw4⟩
  subst hw4
  obtain ⟨z0, z1, z2, z3⟩ := HA.out.2.1.two
  obtain ⟨y0, y1, y2, y3⟩ := HA.out.2.2.2.1.two
  have hth : thereB d 0 = (decide (0 ≤ d) && decide (d < 4)) := by unfold thereB; simp
  by_cases hno : d < 0 ∨ 4 ≤ d
  · have HP := Lib.hid (gone_out (a := a) hno)
    have hrd : RdA w3 (fun k => w.heap.size + 2 ≤ k ∧ k < BO) (.agg #[.slice (some ⟨g, 0, none⟩) 4 cg, .slice none 0 0]) a := ⟨_, _, rfl, disks_rd HA.out.2.2.2.2, by rw [HNO.out]; exact RdIs.nil_ _ _ _ _ (by decide)⟩
    have HRET := Lib.hid (ret_box (F' := fun k => w.heap.size ≤ k) HA.out.2.1 HA.out.2.2.1 (by omega) hrd (fun k hk => by omega) fun k hk => by omega)
    have ht : thereB d 0 = false := by
      rw [hth]
      rcases hno with h | h
      · have : ¬ 0 ≤ d := by omega
        simp [this]
      · have : ¬ d < 4 := by omega
        simp [this]
    rw [ht]
    clear hno hrd hth hD3
    go_wp2_with fail
    exact bodyPost_ret (v := .tuple #[.agg #[.slice (some ⟨g, 0, none⟩) 4 cg, .slice none 0 0], .int .i64 6]) (by simp [results, Tryd.results40, go_sem, *]) rfl (by rw [HP.out]; exact ⟨_, rfl, HRET.out.1, HRET.out.2⟩)
  obtain ⟨d, rfl⟩ := Int.eq_ofNat_of_zero_le (show 0 ≤ d by omega)
  have hd4 : d < 4 := by omega
  have HP := Lib.hid (gone_in (a := a) hd4)
  have ht : thereB (d : Int) 0 = true := by rw [hth]; simp; omega
  rw [ht]
  have hdl : d < a.disks.length := by rw [HS.out.1]; exact hd4
  have hgF := (HA.out.2.2.2.2.blk g rfl).1
  obtain ⟨_, fd, hfz0, hfz, _⟩ := HA.out.2.2.2.2.inner okROW hdl
  have HFZ := Lib.hid hfz
  have hbase := HA.out.2.2.1.size
  clear hno hth ht hD3 z0 z1 z2 z3 y0 y1 y2 y3 hfz hfz0
  go_wp2_with fail
  refine region_three (w.heap.size) [Ck (.pointer (some ⟨BO, 0, none⟩)), Ck (.slice (some ⟨g, 0, none⟩) 4 cg), Ck (.int .i64 d), Ek 0 (Rg ROW w3.heap.size [[], [], []]), Ck (.pointer (some ⟨g, d, none⟩)), Tk] (fun m wx => (m = 0 → Below w3.heap.size w3 wx) ∧ (m = 1 → DISKS wx (fun q => w.heap.size + 2 ≤ q ∧ q ≠ BO) (.slice (some ⟨g, 0, none⟩) 4 cg) (a.disks.set d [[], [], []])) ∧ BoxAt wx (w.heap.size + 1) 37 [.slice none 0 0, .slice none 0 0] ∧ BoxAt wx BO 37 [.slice (some ⟨g, 0, none⟩) 4 cg, .slice none 0 0]) [5] (by kernel_rfl) (by kernel_rfl) (by kernel_rfl) (by kernel_rfl) (by kernel_rfl) ?_ ?_ (fun m w w' hb h => ⟨fun e => (h.1 e).trans (hb.mono (h.1 e).size), fun e => okDISKS.grow (h.2.1 e) hb, h.2.2.1.grow hb, h.2.2.2.grow hb⟩) (⟨fun _ => Below.refl _ _, fun h => absurd h (by decide), HA.out.2.1, HA.out.2.2.2.1⟩) ?_ ?_
  · first | exact Nat.le_refl _ | assumption | omega
  · repeat (first | exact trivial | refine ⟨mCk _, ?_⟩ | refine ⟨mTk, ?_⟩ | refine ⟨mEk _ (by first | exact mC _ | exact mT | exact mR okB _ | exact mR okBB _ | exact mR okBBB _ | exact mRn okB _ _ | exact mRn okBB _ _ | exact mOw _ _ _ _ | exact mRm okB _ _ _ | exact mRa _ _ | exact mRg okROW _ _ | exact mRg okROWS _ _ | exact mRf okDISKS _ _ | exact mRg okCELL _ _ | exact mRg okBB _ _ | exact mRg okB _ _ | exact mRg okIs _ _ | exact mRi _ _ | exact mOx _ _), ?_⟩ | refine ⟨mFk _ (by first | exact mC _ | exact mT | exact mR okB _ | exact mR okBB _ | exact mR okBBB _ | exact mRn okB _ _ | exact mRn okBB _ _ | exact mOw _ _ _ _ | exact mRm okB _ _ _ | exact mRa _ _ | exact mRg okROW _ _ | exact mRg okROWS _ _ | exact mRf okDISKS _ _ | exact mRg okCELL _ _ | exact mRg okBB _ _ | exact mRg okB _ _ | exact mRg okIs _ _ | exact mRi _ _ | exact mOx _ _), ?_⟩ | refine ⟨fun _ => (by first | exact mC _ | exact mT | exact mR okB _ | exact mR okBB _ | exact mR okBBB _ | exact mRn okB _ _ | exact mRn okBB _ _ | exact mOw _ _ _ _ | exact mRm okB _ _ _ | exact mRa _ _ | exact mRg okROW _ _ | exact mRg okROWS _ _ | exact mRf okDISKS _ _ | exact mRg okCELL _ _ | exact mRg okBB _ _ | exact mRg okB _ _ | exact mRg okIs _ _ | exact mRi _ _ | exact mOx _ _), ?_⟩)
  · simp only [StepsL3]
    refine ⟨?_, ?_, ?_, ?_, ?_, ?_, trivial⟩
    · refine @id (StepG _ _ _ _ _ _ _ _ _ _ _) ?_
      intro nst ys wx hn hmay hw hS hd
      intro K hK
      simp only [putL, Act.put, List.setIfInBounds_toArray, List.set_cons_zero, List.set_cons_succ, Nat.zero_add, Nat.reduceAdd] at hK ⊢
      rw [if_pos (by rfl)]
      go_simp
      exact hK _ _ (Below.refl _ _) rfl
    · refine @id (StepG _ _ _ _ _ _ _ _ _ _ _) ?_
      intro nst ys wx hn hmay hw hS hd
      obtain rfl : nst = 0 := may_one hmay hn (by kernel_rfl)
      intro K hK
      have e0 : ys 0 = _ := hd 0 (by decide)
      simp only [putL, Act.put, List.setIfInBounds_toArray, List.set_cons_zero, List.set_cons_succ, Nat.zero_add, Nat.reduceAdd, e0] at hK ⊢
      rw [if_pos (by rfl)]
      obtain ⟨y0, y1, y2, y3⟩ := hS.2.2.2.two
      go_simp
      exact hK _ _ (Below.refl _ _) rfl
    · refine @id (StepG _ _ _ _ _ _ _ _ _ _ _) ?_
      intro nst ys wx hn hmay hw hS hd
      intro K hK
      simp only [putL, Act.put, List.setIfInBounds_toArray, List.set_cons_zero, List.set_cons_succ, Nat.zero_add, Nat.reduceAdd] at hK ⊢
      rw [if_pos (by rfl)]
      go_simp
      exact hK _ _ (Below.refl _ _) rfl
    · refine @id (StepG _ _ _ _ _ _ _ _ _ _ _) ?_
      intro nst ys wx hn hmay hw hS hd
      obtain rfl : nst = 0 := may_one hmay hn (by kernel_rfl)
      intro K hK
      simp only [putL, Act.put, List.setIfInBounds_toArray, List.set_cons_zero, List.set_cons_succ, Nat.zero_add, Nat.reduceAdd] at hK ⊢
      rw [if_pos (by rfl)]
      have hmk := mk3BB wx
      have hsx := (hS.1 rfl).size
      go_simp
      exact hK _ _ (below_alloc _ _) (okROW.lt (okROW.mono (row_nil wx) fun q hq => Nat.le_trans hsx hq) |> fun h => okROW.mono h fun q hq => ⟨hq.1, hq.2⟩)
    · refine @id (StepG _ _ _ _ _ _ _ _ _ _ _) ?_
      intro nst ys wx hn hmay hw hS hd
      intro K hK
      have e1 : ys 1 = _ := hd 1 (by decide)
      have e2 : ys 2 = _ := hd 2 (by decide)
      simp only [putL, Act.put, List.setIfInBounds_toArray, List.set_cons_zero, List.set_cons_succ, Nat.zero_add, Nat.reduceAdd, e1, e2] at hK ⊢
      rw [if_pos (by rfl)]
      have r1 : (d : Int) < 4 := by omega
      have r0 : (0 : Int) ≤ d := by omega
      have r2 : (d : Int).toNat = d := by omega
      go_simp
      exact hK _ _ (Below.refl _ _) rfl
    · refine @id (StepS _ _ _ _ _ _ _ _ _ _ _) ?_
      intro ys wx hw hS hd K hK
      have k3 := hd 3 (by decide)
      change (Rg ROW w3.heap.size [[], [], []]) wx (ys 3) at k3
      have e4 : ys 4 = _ := hd 4 (by decide)
      simp only [putL, Act.put, List.setIfInBounds_toArray, List.set_cons_zero, List.set_cons_succ, Nat.zero_add, Nat.reduceAdd, e4] at hK ⊢
      rw [if_pos (by rfl)]
      have k3' : ROW wx (fun q => w3.heap.size ≤ q ∧ q < wx.heap.size) (ys 3) [[], [], []] := k3
      obtain ⟨A3, c3, hy, _, _⟩ := (row_rd k3').shape
      rw [hy] at k3'
      simp only [hy] at hK ⊢
      clear k3 hy
      have hOx := okDISKS.grow HA.out.2.2.2.2 (hS.1 rfl)
      obtain ⟨_, fx, hq0, hq1, _⟩ := hOx.inner okROW hdl
      have hBO3 := HA.out.2.2.2.1.lt
      have hput := hOx.put okROW hdl k3' (fun k hk => ⟨fun h => by omega, hk.2⟩)
      have hbs := (Below.refl w.heap.size wx).setCell (p := ⟨g, d, none⟩) (by show w.heap.size ≤ g; omega) (.slice A3 3 c3)
      have f1 := hS.2.2.1.far (b' := g) (j := d) (v := .slice A3 3 c3) (by omega)
      have f2 := hS.2.2.2.far (b' := g) (j := d) (v := .slice A3 3 c3) (by omega)
      go_simp
      exact hK undef _ hbs ⟨fun e => absurd e (by decide), fun _ => okDISKS.mono hput fun k hk => by omega, f1, f2⟩ trivial ⟨fun _ h => h, fun _ h => h, fun _ h => h, fun _ _ => trivial, fun _ h => h, fun _ h => h, trivial⟩
  · intro ys w' hl' hS' hV
    clear hV
    simp only [putL, Act.put, List.setIfInBounds_toArray, List.set_cons_zero, List.set_cons_succ, Nat.zero_add, Nat.reduceAdd]
    rename_i w'
    have hB' := HA.out.2.2.1.trans (hl'.mono (by omega))
    have hrd : RdA w' (fun k => w.heap.size + 2 ≤ k ∧ k ≠ BO) (.agg #[.slice (some ⟨g, 0, none⟩) 4 cg, .slice none 0 0]) ⟨a.disks.set d [[], [], []], a.ints⟩ := ⟨_, _, rfl, disks_rd (hS'.2.1 rfl), by show RdIs _ _ _ a.ints; rw [HNO.out]; exact RdIs.nil_ _ _ _ _ (by decide)⟩
    obtain ⟨z0, z1, z2, z3⟩ := hS'.2.2.1.two
    obtain ⟨y0, y1, y2, y3⟩ := hS'.2.2.2.two
    have HRET := Lib.hid (ret_box (F' := fun k => w.heap.size ≤ k) hS'.2.2.1 hB' (by omega) hrd (fun k hk => by omega) fun k hk => by omega)
    clear hS' hl' hB' hrd
    go_wp2_with fail
    exact bodyPost_ret (v := .tuple #[.agg #[.slice (some ⟨g, 0, none⟩) 4 cg, .slice none 0 0], .int .i64 0]) (by simp [results, Tryd.results40, go_sem, *]) rfl (by rw [HP.out]; exact ⟨_, rfl, HRET.out.1, HRET.out.2⟩)
end Go.Proofs.YtdcmbdghnkgghaaDoor

namespace Go.Proofs.YtdcmbdghnkgghaaDoor
set_option linter.unusedVariables false
open Go Go.RowKit M
/-- Rows of cells that are read, each row and each cell apart. -/
abbrev ROWr : Rel (List Bs) := OwnL RdB 22
theorem okROWr : Ok ROWr := okO okB
abbrev DISKSr : Rel (List (List Bs)) := OwnL ROWr 38
theorem okDISKSr : Ok DISKSr := okO okROWr
theorem disks_r {w : World} {F : Fp} {v : Value} {D : List (List Bs)} (h : DISKS w F v D) : DISKSr w F v D := h.imp fun hr => hr.imp fun hc => cell_rd hc
theorem disksr_rd {w : World} {F : Fp} {v : Value} {D : List (List Bs)} (h : DISKSr w F v D) : RdBBB w F v D := h.toRd okROWr (fun hx => hx.toRd okB (fun hc => hc) okB) okBB
/-- A cell is put in its place. -/
theorem disks_put {w : World} {F f' : Fp} {g c : Nat} {D : List (List Bs)} (h : DISKSr w F (.slice (some ⟨g, 0, none⟩) 4 c) D) (hs : Shape D) {d s : Nat} (hd : d < 4) (hs3 : s < 3) {u : Value} {x : Bs} (hu : RdB w f' u x) (hf' : ∀ k, f' k → ¬ F k ∧ k < w.heap.size) :
    ∃ g1 c1 u0, w.cell? ⟨g, d, none⟩ = some (.slice (some ⟨g1, 0, none⟩) 3 c1) ∧ 3 ≤ c1 ∧ c1 ≤ maxLen ∧ w.cell? ⟨g1, s, none⟩ = some u0 ∧ w.frozen? ⟨g1, s, none⟩ = false ∧ F g1 ∧
      DISKSr (w.setCell ⟨g1, s, none⟩ u) (fun k => F k ∨ f' k) (.slice (some ⟨g, 0, none⟩) 4 c) (setA D d s x) := by
  obtain ⟨r, hr, hrl, hrs, _⟩ := hs.cell hd hs3
  have hdl : d < D.length := by rw [hs.1]; exact hd
  have her : D[d] = r := (List.getElem?_eq_some_iff.1 hr).2
  obtain ⟨u1, f1, a1, a2, a3, a4, a5⟩ := h.inner okROWr hdl
  rw [her] at a3
  obtain ⟨g1, c1, rfl, hf1, _, hc1, hc1m⟩ := a3.form (by omega)
  rw [hrl] at a1 a3 a5 hc1
  have hsl : s < r.length := by omega
  obtain ⟨u0, f0, b1, b2, _, _, _⟩ := a3.inner okB hsl
  have hput := a3.put okB hsl hu (fun k hk => ⟨fun h1 => (hf' k hk).1 (a4 k h1).1, (hf' k hk).2⟩)
  refine ⟨g1, c1, u0, a1, hc1, hc1m, b1, b2, (a4 g1 hf1).1, ?_⟩
  have htop := a5 (w.setCell ⟨g1, s, none⟩ u) (fun k => f1 k ∨ f' k) (r.set s x) (fun k _ hk _ => Below.heap_setCell w ⟨g1, s, none⟩ _ k fun e => hk (e ▸ hf1)) hput (fun k hk => by
    rw [setCell_size]
    rcases hk with hk | hk
    · exact ⟨.inl hk, (a4 k hk).2.2⟩
    · exact ⟨.inr (hf' k hk).1, (hf' k hk).2⟩)
  have e5 : setA D d s x = D.set d (r.set s x) := by
    unfold setA
    rw [show D.getD d [] = r by simp [List.getD, hr]]
  rw [e5]
  refine okDISKSr.mono htop fun k hk => ?_
  rcases hk with hk | hk | hk
  · exact .inl hk
  · exact .inl (a4 k hk).1
  · exact .inr hk
set_option maxRecDepth 100000 in
set_option maxHeartbeats 3200000 in
theorem mend_Stripe (a : Arr) (s : Int) (v : Value) (F : Fp) (w : World) (h : RdA w F v a) (hsh : Shape a.disks) (hno : a.ints = []) :
    Calls Tryd.prog 41 #[v, .int .i64 s] w fun e w' => ∃ v', e = .returned (.tuple #[v', .int .i64 (mendA a s).2.1, .int .i64 (mendA a s).2.2]) ∧ RdA w' (fun k => w.heap.size ≤ k) v' (mendA a s).1 ∧ Below w.heap.size w w' := by
  obtain ⟨b0, o0, c0, Ai, ci, rfl, hD, hI, hc0, hc1⟩ := RdA_open h hsh
  obtain ⟨hA, hZ, hB, hsz⟩ := two_boxes w (.slice (some ⟨b0, o0, none⟩) 4 c0) (.slice Ai a.ints.length ci) 37
  have hAr : RdA _ (fun k => F k ∧ k < w.heap.size) (.agg #[.slice (some ⟨b0, o0, none⟩) 4 c0, .slice Ai a.ints.length ci]) a := ⟨_, _, rfl, okBBB.grow hD hB, okIs.grow hI hB⟩
  have HSZ := Lib.hid hsz
  have HS := Lib.hid hsh
  have HNO := Lib.hid hno
  obtain ⟨x0, x1, x2, x3⟩ := hA.two
  clear h hI hsz hsh hno hD
  go_enter Tryd.func41, Tryd.ntmps41
  go_wp2_with fail
  generalize (w.alloc (.cells #[.slice (some ⟨b0, o0, none⟩) 4 c0, .slice Ai a.ints.length ci] 37)).alloc (.cells #[.slice none 0 0, .slice none 0 0] 37) = w1 at *
  refine (array_Own0 a _ _ _ hAr HS.out HNO.out).mono ?_
  rintro e w2 ⟨dv, rfl, hO, hb2⟩
  rw [HSZ.out] at hO
  obtain ⟨g, cg, rfl, hg0, hg1, hcg, hcgm⟩ := hO.form (by rw [HS.out.1]; decide)
  rw [HS.out.1] at hO hcg ⊢
  unfold maxLen at hcgm
  have hal := below_alloc w2 (.cells #[.slice (some ⟨g, 0, none⟩) 4 cg, .slice none 0 0] 37)
  have hX := boxAt_new w2 37 [.slice (some ⟨g, 0, none⟩) 4 cg, .slice none 0 0]
  have hO3 := okDISKSr.grow (okDISKSr.lt (disks_r hO)) hal
  have hb3 := hb2.trans (hal.mono hb2.size)
  have hA3 := hA.grow hb3
  have hZ3 := hZ.grow hb3
  have hB3 := hB.trans (hb3.mono hB.size)
  have hAr3 := hAr.grow hb3
  have hsz2 : w.heap.size + 2 ≤ w2.heap.size := by have := hb2.size; have := HSZ.out; omega
  have hs9 : decide (s < 0) = decide (s < 0) := rfl
  have HA0 := Lib.hid (And.intro hA3 (And.intro hZ3 (And.intro hB3 (And.intro hX (And.intro hO3 hAr3)))))
  clear x0 x1 x2 x3 hal hb3 hA3 hZ3 hB3 hX hO3 hO hb2 hA hZ hB hAr hg0 hg1 hAr3 hs9
  by_cases hs : s < 0 ∨ 3 ≤ s
  · have HP := Lib.hid (mend_out (a := a) hs)
    obtain ⟨hA3, hZ3, hB3, hX, hO3, hAr3⟩ := HA0.out
    change BoxAt (w2.alloc (.cells #[.slice (some ⟨g, 0, none⟩) 4 cg, .slice none 0 0] 37)) _ _ _ at hX
    obtain ⟨z0, z1, z2, z3⟩ := hZ3.two
    obtain ⟨y0, y1, y2, y3⟩ := hX.two
    have hrd : RdA _ (fun k => w.heap.size + 2 ≤ k ∧ k < w2.heap.size) (.agg #[.slice (some ⟨g, 0, none⟩) 4 cg, .slice none 0 0]) a := ⟨_, _, rfl, disksr_rd hO3, by rw [HNO.out]; exact RdIs.nil_ _ _ _ _ (by decide)⟩
    have HRET := Lib.hid (ret_box (F' := fun k => w.heap.size ≤ k) hZ3 hB3 (by omega) hrd (fun k hk => by omega) fun k hk => by omega)
    clear hA3 hZ3 hB3 hX hO3 hAr3 hrd HA0
    rcases hs with hs | hs
    · go_wp2_with fail
      exact bodyPost_ret (v := .tuple #[.agg #[.slice (some ⟨g, 0, none⟩) 4 cg, .slice none 0 0], .int .i64 0, .int .i64 3]) (by simp [results, Tryd.results41, go_sem, *]) rfl (by rw [HP.out]; exact ⟨_, rfl, HRET.out.1, HRET.out.2⟩)
    · have d1 : decide (3 ≤ s) = true := by simpa using hs
      have d2 : decide (s < 0) = false := by simp; omega
      go_wp2_with fail
      exact bodyPost_ret (v := .tuple #[.agg #[.slice (some ⟨g, 0, none⟩) 4 cg, .slice none 0 0], .int .i64 0, .int .i64 3]) (by simp [results, Tryd.results41, go_sem, *]) rfl (by rw [HP.out]; exact ⟨_, rfl, HRET.out.1, HRET.out.2⟩)
  obtain ⟨s, rfl⟩ := Int.eq_ofNat_of_zero_le (show 0 ≤ s by omega)
  have hs3 : s < 3 := by omega
  have d1 : decide (3 ≤ (s : Int)) = false := by simp; omega
  have d2 : decide ((s : Int) < 0) = false := by simp
  have ML := Lib.hid (@mend_lost a s hs3)
  have MH := Lib.hid (@mend_had a s hs3)
  obtain ⟨x0, x1, x2, x3⟩ := HA0.out.1.two
  clear hs
  go_wp2_with fail
  clear x0 x1 x2 x3
  change Hid (_ ∧ _ ∧ _ ∧ BoxAt (w2.alloc (.cells #[.slice (some ⟨g, 0, none⟩) 4 cg, .slice none 0 0] 37)) _ _ _ ∧ _ ∧ _) at HA0
  generalize w2.alloc (.cells #[.slice (some ⟨g, 0, none⟩) 4 cg, .slice none 0 0] 37) = w3 at *
  generalize w2.heap.size = BO at *
  refine (stripe_Cells a s _ _ _ HA0.out.2.2.2.2.2 HS.out hs3).mono ?_
  rintro e w4 ⟨v4, rfl, hv4, hb4⟩
  have hr4 := hv4.toRd_ okB
  have HL := Lib.hid (show (cellsA a.disks s).length = 4 by rw [cellsA_len, HS.out.1])
  clear hv4
  go_wp2_with fail
  refine (stripe_Bad _ s _ _ _ hr4 (by rw [HL.out]; decide)).mono ?_
  rintro e w5 ⟨v5, rfl, hv5, hb5⟩
  obtain ⟨A5, c5, rfl, _, _⟩ := (hv5.toRd_ okI).shape
  rw [ints_len]
  have hr5 := okBB.grow hr4 hb5
  clear hv5 hr4
  go_wp2_with fail
  refine (stripe_Data (cellsA a.disks s) s _ _ _ hr5 (by rw [HL.out]; decide)).mono ?_
  rintro e w6 ⟨v6, rfl, hv6, hb6⟩
  have hb36 := hb4.trans ((hb5.trans (hb6.mono hb5.size)).mono hb4.size)
  obtain ⟨hA3, hZ3, hB3, hX, hO3, hAr3⟩ := HA0.out
  have HX := Lib.hid (hX.grow hb36)
  have HZ := Lib.hid (hZ3.grow hb36)
  have HBel := Lib.hid (hB3.trans (hb36.mono hB3.size))
  have HO := Lib.hid (okDISKSr.grow hO3 hb36)
  have hgF := (hO3.blk g rfl).1
  clear hb4 hb5 hb6 hb36 hr5 hA3 hZ3 hB3 hX hO3 hAr3 HA0
  by_cases h9 : (dataL (cellsA a.disks s) s).2 = 0
  rotate_left
  · have HP := Lib.hid (ML.out h9)
    obtain ⟨z0, z1, z2, z3⟩ := HZ.out.two
    obtain ⟨y0, y1, y2, y3⟩ := HX.out.two
    have hrd : RdA w6 (fun k => w.heap.size + 2 ≤ k ∧ k < BO) (.agg #[.slice (some ⟨g, 0, none⟩) 4 cg, .slice none 0 0]) a := ⟨_, _, rfl, disksr_rd HO.out, by rw [HNO.out]; exact RdIs.nil_ _ _ _ _ (by decide)⟩
    have HRET := Lib.hid (ret_box (F' := fun k => w.heap.size ≤ k) HZ.out HBel.out (by omega) hrd (fun k hk => by omega) fun k hk => by omega)
    have hne : ((dataL (cellsA a.disks s) s).2 != 0) = true := by simpa using h9
    clear h9 hv6 ML MH hrd
    generalize (dataL (cellsA a.disks s) s).2 = q at *
    go_wp2_with fail
    exact bodyPost_ret (v := .tuple #[.agg #[.slice (some ⟨g, 0, none⟩) 4 cg, .slice none 0 0], .int .i64 ((badL (cellsA a.disks s) s).length : Nat), .int .i64 q]) (by simp [results, Tryd.results41, go_sem, *]) rfl (by rw [HP.out]; exact ⟨_, rfl, HRET.out.1, HRET.out.2⟩)
  have HP := Lib.hid (MH.out h9)
  obtain ⟨q1, q2, _⟩ := data_blocks h9
  rw [HL.out] at q1
  rw [h9]
  have hr6 := hv6.toRd_ okB
  clear h9 ML MH hv6
  obtain ⟨D, hDD⟩ : ∃ D, (dataL (cellsA a.disks s) s).1 = D := ⟨_, rfl⟩
  rw [hDD] at q1 q2 hr6 HP
  obtain ⟨A6, c6, rfl, _, _⟩ := hr6.shape
  rw [q1] at hr6 ⊢
  have hml : (makeL D s).length = 4 := by rw [makeL_len, q1]
  have HML := Lib.hid (make_lens q2 s)
  generalize (badL (cellsA a.disks s) s).length = nb at *
  clear hDD
  go_wp2_with fail
  refine (stripe_Make D s _ _ _ hr6 (by omega) (by rw [q1]; decide) q2).mono ?_
  rintro e w7 ⟨v7, rfl, hv7, hb7⟩
  generalize makeL D s = M at *
  obtain ⟨gM, cM, rfl, hgM0, hgM1, hcM, hcMm⟩ := hv7.form (by omega)
  unfold maxLen at hcMm
  obtain ⟨fs, hfl, hap, hels⟩ := hv7.els
  rw [hml] at hv7 hcM hfl ⊢
  have HEL := Lib.hid hels
  have HAP := Lib.hid hap
  have hs6 : BO < w6.heap.size := HX.out.lt
  have H7 := Lib.hid (And.intro (HX.out.grow hb7) (And.intro (HZ.out.grow hb7) (And.intro (HBel.out.trans (hb7.mono HBel.out.size)) (okDISKSr.grow HO.out hb7))))
  clear hv7 hr6 hb7 q2 hels hap HX HZ HBel HO
  go_wp2_with fail
  go_loopw [45] (fun i wr => ∃ k : Nat, k ≤ 4 ∧ i = .int .i64 k ∧ DISKSr wr (fun q => (w.heap.size + 2 ≤ q ∧ q < BO) ∨ ∃ (j : Nat) (f : Fp), j < k ∧ fs[j]? = some f ∧ f q) (.slice (some ⟨g, 0, none⟩) 4 cg) (putTo a.disks s M k) ∧ (∀ (j : Nat) (x : Bs) (f : Fp), M[j]? = some x → fs[j]? = some f → ∃ u, wr.cell? ⟨gM, j, none⟩ = some u ∧ (k ≤ j → RdB wr f u x)) ∧ BoxAt wr BO 37 [.slice (some ⟨g, 0, none⟩) 4 cg, .slice none 0 0] ∧ BoxAt wr (w.heap.size + 1) 37 [.slice none 0 0, .slice none 0 0] ∧ Below w.heap.size w wr ∧ w7.heap.size ≤ wr.heap.size) (fun i _ => 4 - (intOf i).toNat)
  case atStart =>
    refine ⟨0, Nat.zero_le _, rfl, okDISKSr.mono H7.out.2.2.2 fun q hq => .inl hq, fun j x f hx hf => ?_, H7.out.1, H7.out.2.1, H7.out.2.2.1, Nat.le_refl _⟩
    obtain ⟨u, h1, h2⟩ := (HEL.out j x f hx hf).2 gM 4 cM (by rw [hml])
    exact ⟨u, h1, fun _ => h2⟩
  case round =>
    obtain ⟨k, hk, rfl, hO, hM, hX, hZ, hB, hsr⟩ := hrel
    by_cases hlt : k < 4
    · have hkm : k < M.length := by omega
      have hkf : k < fs.length := by omega
      obtain ⟨u, hu, hRu'⟩ := hM k M[k] fs[k] (List.getElem?_eq_getElem hkm) (List.getElem?_eq_getElem hkf)
      have hRu := hRu' (Nat.le_refl _)
      have hfk := (HEL.out k M[k] fs[k] (List.getElem?_eq_getElem hkm) (List.getElem?_eq_getElem hkf)).1
      have hshk : Shape (putTo a.disks s M k) := putTo_shape HS.out s HML.out k
      have hdis : ∀ q, fs[k] q → ¬ ((w.heap.size + 2 ≤ q ∧ q < BO) ∨ ∃ (j : Nat) (f : Fp), j < k ∧ fs[j]? = some f ∧ f q) ∧ q < wr.heap.size := fun q hq => by
        refine ⟨?_, by have := (hfk q hq).2.2; omega⟩
        rintro (h | ⟨j, f, hj, hf, hfq⟩)
        · have := (hfk q hq).1; omega
        · exact HAP.out j k f fs[k] hf (List.getElem?_eq_getElem hkf) (by omega) q hfq hq
      obtain ⟨g1, k1, u0, p1, p2, p3, p4, p5, p6, p7⟩ := disks_put hO hshk hlt hs3 hRu hdis
      have hg1 : w.heap.size + 2 ≤ g1 ∧ g1 ≠ BO ∧ g1 ≠ gM := by
        rcases p6 with h | ⟨j, f, hj, hf, hfq⟩
        · omega
        · have h1 := (HEL.out j (M[j]'(by omega)) f (List.getElem?_eq_getElem _) hf).1 g1 hfq
          refine ⟨by have := h1.1; omega, by have := h1.1; omega, fun e => h1.2.1 (by rw [e]; rfl)⟩
      obtain ⟨Ax, cx, rfl, _, _⟩ := hRu.shape
      unfold maxLen at p3
      have HN := Lib.hid (show putTo a.disks s M (k + 1) = setA (putTo a.disks s M k) k s M[k] by rw [putTo_next]; simp [List.getD, List.getElem?_eq_getElem hkm])
      have n1 : DISKSr (wr.setCell ⟨g1, s, none⟩ (.slice Ax M[k].length cx)) (fun q => (w.heap.size + 2 ≤ q ∧ q < BO) ∨ ∃ (j : Nat) (f : Fp), j < k + 1 ∧ fs[j]? = some f ∧ f q) (.slice (some ⟨g, 0, none⟩) 4 cg) (putTo a.disks s M (k + 1)) := by
        rw [HN.out]
        refine okDISKSr.mono p7 fun q hq => ?_
        rcases hq with (h | ⟨j, f, hj, hf, hfq⟩) | h
        · exact .inl h
        · exact .inr ⟨j, f, by omega, hf, hfq⟩
        · exact .inr ⟨k, fs[k], by omega, List.getElem?_eq_getElem hkf, h⟩
      have n2 : ∀ (j : Nat) (x : Bs) (f : Fp), M[j]? = some x → fs[j]? = some f → ∃ u, (wr.setCell ⟨g1, s, none⟩ (.slice Ax M[k].length cx)).cell? ⟨gM, j, none⟩ = some u ∧ (k + 1 ≤ j → RdB (wr.setCell ⟨g1, s, none⟩ (.slice Ax M[k].length cx)) f u x) := fun j x f hx hf => by
        obtain ⟨u', h1, h2⟩ := hM j x f hx hf
        refine ⟨u', ?_, fun hj => okB.setc (h2 (by omega)) fun q hq e => ?_⟩
        · rw [World.cell?_of_block (w := wr) (a := ⟨gM, j, none⟩) (Below.heap_setCell wr ⟨g1, s, none⟩ _ gM (fun e => hg1.2.2 e.symm))]
          exact h1
        · subst e
          have hfj := (HEL.out j x f hx hf).1 q hq
          rcases p6 with h | ⟨i, f', hi, hf', hfq⟩
          · have := hfj.1; omega
          · exact HAP.out i j f' f hf' hf (by omega) q hfq hq
      have n3 := hX.far (b' := g1) (j := s) (v := .slice Ax M[k].length cx) (by omega)
      have n4 := hZ.far (b' := g1) (j := s) (v := .slice Ax M[k].length cx) (by omega)
      have n5 := hB.setCell (p := ⟨g1, s, none⟩) (by show w.heap.size ≤ g1; omega) (.slice Ax M[k].length cx)
      have n6 : w7.heap.size ≤ (wr.setCell ⟨g1, s, none⟩ (.slice Ax M[k].length cx)).heap.size := by rw [setCell_size]; exact hsr
      have H := Lib.hid (And.intro n1 (And.intro n2 (And.intro n3 (And.intro n4 (And.intro n5 n6)))))
      obtain ⟨y0, y1, y2, y3⟩ := hX.two
      clear n1 n2 n3 n4 n5 n6 hRu hRu' hfk hdis p7 hO hM hX hZ hB hshk p6
      go_wp2_with fail
      go_roundw
      case rel => exact ⟨k + 1, by omega, by go_num, H.out.1, H.out.2.1, H.out.2.2.1, H.out.2.2.2.1, H.out.2.2.2.2.1, H.out.2.2.2.2.2⟩
      case measure => simp [intOf]; omega
    · obtain rfl : k = 4 := by omega
      obtain ⟨z0, z1, z2, z3⟩ := hZ.two
      obtain ⟨y0, y1, y2, y3⟩ := hX.two
      have hrd : RdA wr _ (.agg #[.slice (some ⟨g, 0, none⟩) 4 cg, .slice none 0 0]) ⟨putTo a.disks s M 4, a.ints⟩ := ⟨_, _, rfl, disksr_rd hO, by show RdIs _ _ _ a.ints; rw [HNO.out]; exact RdIs.nil_ _ _ _ _ (by decide)⟩
      have hge : ∀ q, ((w.heap.size + 2 ≤ q ∧ q < BO) ∨ ∃ (j : Nat) (f : Fp), j < 4 ∧ fs[j]? = some f ∧ f q) → w.heap.size + 2 ≤ q := fun q hq => by
        rcases hq with h | ⟨j, f, hj, hf, hfq⟩
        · exact h.1
        · have h1 := (HEL.out j (M[j]'(by omega)) f (List.getElem?_eq_getElem _) hf).1 q hfq
          have := h1.1
          omega
      have HRET := Lib.hid (ret_box (F' := fun k => w.heap.size ≤ k) hZ hB (by omega) hrd (fun k hk => by have := hge k hk; omega) fun k hk => by have := hge k hk; omega)
      clear hO hM hX hZ hB hrd hge hk hlt
      go_wp2_with fail
      exact bodyPost_ret (v := .tuple #[.agg #[.slice (some ⟨g, 0, none⟩) 4 cg, .slice none 0 0], .int .i64 (nb : Nat), .int .i64 0]) (by simp [results, Tryd.results41, go_sem, *]) rfl (by rw [HP.out]; exact ⟨_, rfl, HRET.out.1, HRET.out.2⟩)
end Go.Proofs.YtdcmbdghnkgghaaDoor

namespace Go.Proofs.YtdcmbdghnkgghaaDoor
set_option linter.unusedVariables false
open Go Go.RowKit M
set_option maxHeartbeats 800000 in
theorem mend_Worst (a : Arr) (v : Value) (F : Fp) (w : World) (h : RdA w F v a) (hsh : Shape a.disks) :
    Calls Tryd.prog 25 #[v] w fun e w' => e = .returned (.int .i64 ((worstA a.disks : Nat) : Int)) ∧ Below w.heap.size w w' := by
  obtain ⟨b0, o0, c0, Ai, ci, rfl, hD, hI, hc0, hc1⟩ := RdA_open h hsh
  have hA := boxAt_new w 37 [.slice (some ⟨b0, o0, none⟩) 4 c0, .slice Ai a.ints.length ci]
  have hB := below_alloc w (.cells #[.slice (some ⟨b0, o0, none⟩) 4 c0, .slice Ai a.ints.length ci] 37)
  change BoxAt (w.alloc (.cells #[.slice (some ⟨b0, o0, none⟩) 4 c0, .slice Ai a.ints.length ci] 37)) _ _ _ at hA
  have HS := Lib.hid hsh
  clear hsh
  go_enter Tryd.func25, Tryd.ntmps25
  go_wp2_with fail
  generalize w.alloc (.cells #[.slice (some ⟨b0, o0, none⟩) 4 c0, .slice Ai a.ints.length ci] 37) = w1 at *
  replace hD := okBBB.grow hD hB
  replace hI := okIs.grow hI hB
  go_loopw [3, 5] (fun u i wr => ∃ k : Nat, k ≤ 3 ∧ i = .int .i64 k ∧ u = .int .i64 ((worstTo a.disks k : Nat) : Int) ∧ worstTo a.disks k ≤ 4 ∧ Below w1.heap.size w1 wr) (fun _ i _ => 3 - (intOf i).toNat)
  case atStart => exact ⟨0, Nat.zero_le _, rfl, rfl, Nat.zero_le _, Below.refl _ _⟩
  case round =>
    obtain ⟨k, hk, rfl, rfl, hw4, hlw⟩ := hrel
    by_cases hlt : k < 3
    · obtain ⟨x0, x1, _⟩ := (hA.grow hlw).two
      have HN := Lib.hid (worstTo_next a.disks k)
      have hbl := badL_le (cellsA a.disks k) k
      have HL := Lib.hid (show (cellsA a.disks k).length = 4 by rw [cellsA_len, HS.out.1])
      rw [HL.out] at hbl
      go_wp2_with fail
      refine (stripe_Cells a k _ _ _ ⟨_, _, rfl, okBBB.grow hD hlw, okIs.grow hI hlw⟩ HS.out hlt).mono ?_
      rintro e w2 ⟨v2, rfl, hv2, hb2⟩
      have hr2 := hv2.toRd_ okB
      clear x0 x1 hv2
      go_wp2_with fail
      refine (stripe_Bad _ k _ _ _ hr2 (by rw [HL.out]; decide)).mono ?_
      rintro e w3 ⟨v3, rfl, hv3, hb3⟩
      obtain ⟨A3, c3, rfl, _, _⟩ := (hv3.toRd_ okI).shape
      rw [ints_len]
      have HB3 := Lib.hid (hlw.trans ((hb2.trans (hb3.mono hb2.size)).mono hlw.size))
      clear hv3 hr2 hb2 hb3 hlw
      generalize (badL (cellsA a.disks k) k).length = n at *
      generalize worstTo a.disks k = m at *
      go_wp2
      go_roundw
      case rel => exact ⟨k + 1, by omega, by go_num, by rw [HN.out]; congr 1; split <;> omega, by rw [HN.out]; omega, HB3.out⟩
      case measure => simp [intOf]; omega
    · obtain rfl : k = 3 := by omega
      go_wp2
      go_ret
      exact ⟨rfl, hB.trans (hlw.mono hB.size)⟩
theorem mend_ints {a : Arr} (h : a.ints = []) (s : Int) : (mendA a s).1.ints = [] := by
  by_cases hs : s < 0 ∨ 3 ≤ s
  · rw [mend_out hs]; exact h
  · obtain ⟨s, rfl⟩ := Int.eq_ofNat_of_zero_le (show 0 ≤ s by omega)
    by_cases hd : (dataL (cellsA a.disks s) s).2 = 0
    · rw [mend_had (by omega) hd]; exact h
    · rw [mend_lost (by omega) hd]; exact h
theorem mends_ints {a : Arr} (h : a.ints = []) (k : Nat) : (mendsTo a k).ints = [] := by
  induction k with
  | zero => exact h
  | succ k ih => rw [mendsTo_next]; exact mend_ints ih _
set_option maxRecDepth 100000 in
set_option maxHeartbeats 1600000 in
theorem mend_All (a : Arr) (v : Value) (F : Fp) (w : World) (h : RdA w F v a) (hsh : Shape a.disks) (hno : a.ints = []) :
    Calls Tryd.prog 24 #[v] w fun e w' => ∃ v' u, e = .returned (.tuple #[v', u]) ∧ RdA w' (fun k => F k ∨ w.heap.size ≤ k) v' (mendsTo a 3) ∧ RdL RI w' (fun k => w.heap.size ≤ k) u (mendNs a 3) ∧ Below w.heap.size w w' := by
  obtain ⟨b0, o0, c0, Ai, ci, rfl, hD, hI, hc0, hc1⟩ := RdA_open h hsh
  rw [show a.ints.length = 0 by rw [hno]; rfl] at *
  obtain ⟨hA, hZ, hB, hsz⟩ := two_boxes w (.slice (some ⟨b0, o0, none⟩) 4 c0) (.slice Ai 0 ci) 37
  have hAr : RdA _ (fun k => F k ∧ k < w.heap.size) (.agg #[.slice (some ⟨b0, o0, none⟩) 4 c0, .slice Ai 0 ci]) a := ⟨_, _, rfl, okBBB.grow hD hB, okIs.grow hI hB⟩
  have HSZ := Lib.hid hsz
  have HS := Lib.hid (And.intro hsh hno)
  clear h hD hI hsz hsh hno
  go_enter Tryd.func24, Tryd.ntmps24
  go_wp2_with fail
  generalize (w.alloc (.cells #[.slice (some ⟨b0, o0, none⟩) 4 c0, .slice Ai 0 ci] 37)).alloc (.cells #[.slice none 0 0, .slice none 0 0] 37) = w1 at *
  go_loopw [4, 9] (fun u i wr => ∃ k : Nat, k ≤ 3 ∧ i = .int .i64 k ∧ (∃ dv iv, BoxAt wr w.heap.size 37 [dv, iv] ∧ RdA wr (fun q => (F q ∧ q < w.heap.size ∨ w.heap.size + 2 ≤ q) ∧ some q ≠ u.ownBlock) (.agg #[dv, iv]) (mendsTo a k)) ∧ BoxAt wr (w.heap.size + 1) 37 [.slice none 0 0, .slice none 0 0] ∧ Bld RI 3 wr (w.heap.size + 2) (fun _ => True) u (mendNs a k) ∧ Below w.heap.size w wr ∧ w.heap.size + 2 ≤ wr.heap.size) (fun _ i _ => 3 - (intOf i).toNat)
  case atStart => exact ⟨0, Nat.zero_le _, rfl, ⟨_, _, hA, hAr.mono fun q hq => ⟨.inl hq, by simp [Value.ownBlock]⟩⟩, hZ, Bld.nil_ _ _ _ _ _, hB, by rw [HSZ.out]; exact Nat.le_refl _⟩
  case round =>
    obtain ⟨k, hk, rfl, ⟨dv, iv, hA1, hR⟩, hZ1, hE, hB1, hs1⟩ := hrel
    have hsk := mends_shape HS.out.1 k
    have hik := mends_ints HS.out.2 k
    obtain ⟨b1, o1, c1, A1, c2, hag, _, _, hc11, hc12⟩ := RdA_open hR hsk
    injection hag with hag
    simp only [Array.mk.injEq, List.cons.injEq, and_true] at hag
    obtain ⟨rfl, rfl⟩ := hag
    rw [show (mendsTo a k).ints.length = 0 by rw [hik]; rfl] at hA1 hR
    obtain ⟨x0, x1, x2, x3⟩ := hA1.two
    by_cases hlt : k < 3
    rotate_left
    · obtain rfl : k = 3 := by omega
      obtain ⟨z0, z1, z2, z3⟩ := hZ1.two
      have hRb := ret_box (F' := fun k => F k ∨ w.heap.size ≤ k) hZ1 hB1 (by omega) hR (fun k hk => by omega) fun k hk => hk.1.elim (fun h => .inl h.1) fun h => .inr (by omega)
      have hE2 : Bld RI 3 (set2 wr (w.heap.size + 1) (.slice (some ⟨b1, o1, none⟩) 4 c1) (.slice A1 0 c2)) (w.heap.size + 2) (fun _ => False) u4 (mendNs a 3) := Bld.set2 okI (show Bld RI 3 wr (w.heap.size + 2) (fun _ => False) u4 (mendNs a 3) from hE) (fun q hq => by have := (hE.blk q hq).1; omega) (fun _ hq => hq.elim)
      have hE3 := hE2.toRd okI (F := fun k => w.heap.size ≤ k) (fun k hk => by omega) (fun _ hk => hk.elim)
      have HF := Lib.hid (And.intro hRb hE3)
      obtain ⟨A5, c5, rfl, _, _⟩ := hE3.shape
      clear hA1 hR hZ1 hE hB1 hRb hE2 hE3
      go_wp2_with fail
      exact bodyPost_ret (v := .tuple #[.agg #[.slice (some ⟨b1, o1, none⟩) 4 c1, .slice A1 0 c2], .slice A5 (mendNs a 3).length c5]) (by simp [results, Tryd.results24, go_sem, *]) rfl ⟨_, _, rfl, HF.out.1.1, HF.out.2, HF.out.1.2⟩
    have H1 := Lib.hid (And.intro hA1 (And.intro hZ1 (And.intro hB1 (And.intro hE hs1))))
    have HR := Lib.hid (And.intro hR (And.intro hsk hik))
    have HN := Lib.hid (And.intro (mendsTo_next a k) (mendNs_next a k))
    clear hA1 hR hZ1 hE hB1 hsk hik
    go_wp2_with fail
    refine (mend_Stripe (mendsTo a k) k _ _ _ HR.out.1 HR.out.2.1 HR.out.2.2).mono ?_
    rintro e w4 ⟨v4, rfl, hr4, hb4⟩
    rw [← HN.out.1] at hr4
    have hsh4 := mends_shape HS.out.1 (k + 1)
    have hi4 := mends_ints HS.out.2 (k + 1)
    obtain ⟨b3, o3, c3, A3, c4, rfl, _, _, _, _⟩ := RdA_open hr4 hsh4
    rw [show (mendsTo a (k + 1)).ints.length = 0 by rw [hi4]; rfl] at hr4 ⊢
    have HN2 := HN.out.2
    generalize (mendA (mendsTo a k) (k : Nat)).2.1 = nk at *
    generalize (mendA (mendsTo a k) (k : Nat)).2.2 = ek at *
    have HNx := Lib.hid HN2
    have hal4 := below_alloc w4 (.cells #[.slice (some ⟨b3, o3, none⟩) 4 c3, .slice A3 0 c4] 37)
    have hY4 := boxAt_new w4 37 [.slice (some ⟨b3, o3, none⟩) 4 c3, .slice A3 0 c4]
    have hb5 := hb4.trans (hal4.mono hb4.size)
    have hA5 := H1.out.1.grow hb5
    have hZ5 := H1.out.2.1.grow hb5
    have hB5 := H1.out.2.2.1.trans (hb5.mono H1.out.2.2.1.size)
    have hE5 := H1.out.2.2.2.1.grow okI hb5
    have hr5 := hr4.grow hal4
    have hs4 := hb4.size
    have hOB := H1.out.2.2.2.1.blk
    obtain ⟨w5, hw5⟩ : ∃ x, w4.alloc (.cells #[.slice (some ⟨b3, o3, none⟩) 4 c3, .slice A3 0 c4] 37) = x := ⟨_, rfl⟩
    change BoxAt (w4.alloc (.cells #[.slice (some ⟨b3, o3, none⟩) 4 c3, .slice A3 0 c4] 37)) _ _ _ at hY4
    rw [hw5] at hal4 hY4 hA5 hZ5 hB5 hE5 hr5
    obtain ⟨p0, p1, p2, p3⟩ := hY4.two
    obtain ⟨q0, q1, q2, q3⟩ := hA5.two
    have f1 : BoxAt (set2 w5 w.heap.size (.slice (some ⟨b3, o3, none⟩) 4 c3) (.slice A3 0 c4)) _ _ _ := hA5.put2
    have f2 : RdA (set2 w5 w.heap.size (.slice (some ⟨b3, o3, none⟩) 4 c3) (.slice A3 0 c4)) _ _ _ := hr5.set2 (b := w.heap.size) fun q hq => by omega
    have f3 : BoxAt (set2 w5 w.heap.size (.slice (some ⟨b3, o3, none⟩) 4 c3) (.slice A3 0 c4)) _ _ _ := hZ5.far2 (by omega)
    have f4 : Bld RI 3 (set2 w5 w.heap.size (.slice (some ⟨b3, o3, none⟩) 4 c3) (.slice A3 0 c4)) (w.heap.size + 2) (fun _ => False) u4 (mendNs a k) := Bld.set2 okI (show Bld RI 3 w5 (w.heap.size + 2) (fun _ => False) u4 (mendNs a k) from hE5) (fun q hq => by have := (hOB q hq).1; omega) (fun _ hq => hq.elim)
    have f5 := hB5.trans (below_set2 (b := w.heap.size) (v0 := .slice (some ⟨b3, o3, none⟩) 4 c3) (v1 := .slice A3 0 c4) (Nat.le_refl _))
    have f6 : w4.heap.size ≤ (set2 w5 w.heap.size (.slice (some ⟨b3, o3, none⟩) 4 c3) (.slice A3 0 c4)).heap.size := by rw [set2_size]; exact hal4.size
    obtain ⟨w6, hw6⟩ : ∃ x, set2 w5 w.heap.size (.slice (some ⟨b3, o3, none⟩) 4 c3) (.slice A3 0 c4) = x := ⟨_, rfl⟩
    rw [hw6] at f1 f2 f3 f4 f5 f6
    change (w5.setCell ⟨w.heap.size, 0, none⟩ (.slice (some ⟨b3, o3, none⟩) 4 c3)).setCell ⟨w.heap.size, 1, none⟩ (.slice A3 0 c4) = w6 at hw6
    have H := Lib.hid (And.intro f1 (And.intro (f2.mono (F' := fun q => w.heap.size + 2 ≤ q ∧ some q ≠ u4.ownBlock) fun q hq => ⟨by omega, fun e => by have := (hOB q e.symm).2; omega⟩) (And.intro f3 (And.intro f4 f5))))
    have hsz6 : w.heap.size + 2 ≤ w6.heap.size := by omega
    have HT := Lib.hid (show ((mendNs a k).length + 1) * 8 ≤ 140737488355328 by rw [mendNs_len]; omega)
    have HOB := Lib.hid hOB
    clear f1 f2 f3 f4 f5 f6 hal4 hY4 hb5 hA5 hZ5 hB5 hE5 hr5 hr4 hb4 hsh4 hi4 x0 x1 x2 x3 HN2 hOB
    go_wp2_with (at_builtin; refine wpList_append_bld _ rfl _ _ 53 (by rfl) okI slI (w.heap.size + 2) (fun _ => True) u4 _ (mendNs a k) [nk] (by rfl) (by rfl) (Bld.alloc okI (show Bld RI 3 _ (w.heap.size + 2) (fun _ => True) u4 (mendNs a k) from H.out.2.2.2.1) _) (src_one okI (show Bld RI 3 _ (w.heap.size + 2) (fun _ => True) u4 (mendNs a k) from H.out.2.2.2.1) trivial rfl _ rfl) HT.out ?c2 ?c3)
    case c2 => rw [alloc_size]; omega
    case c3 =>
    intro v' w' r1 r2 r3 r4
    rw [← HNx.out] at r1
    have hal6 := below_alloc w6 (.cells #[.int .i64 nk] 3)
    have hbl : ∀ k, k < w6.heap.size → some k ≠ u4.ownBlock → w'.heap[k]? = w6.heap[k]? := fun k hk hne => (r3.block k (by rw [alloc_size]; omega) hne).trans (hal6.block k hk)
    have n1 : BoxAt w' w.heap.size 37 [.slice (some ⟨b3, o3, none⟩) 4 c3, .slice A3 0 c4] := (hbl _ (by omega) fun e => by have := (HOB.out _ e.symm).1; omega).trans H.out.1
    have n2 : BoxAt w' (w.heap.size + 1) 37 [.slice none 0 0, .slice none 0 0] := (hbl _ (by omega) fun e => by have := (HOB.out _ e.symm).1; omega).trans H.out.2.2.1
    have n3 := (H.out.2.1.lt.keepF (w' := w') fun k hk hl => hbl k hl hk.1.2).mono (F' := fun q => (F q ∧ q < w.heap.size ∨ w.heap.size + 2 ≤ q) ∧ some q ≠ v'.ownBlock) fun q hq => ⟨.inr hq.1.1, fun e => by
      rcases r4 with r4 | r4
      · exact hq.1.2 (e.trans r4)
      · rw [r4] at e
        injection e with e
        have := hq.2
        omega⟩
    have n5 := (H.out.2.2.2.2.trans (hal6.mono (by omega))).trans (r2.mono (by omega))
    have n6 : w.heap.size + 2 ≤ w'.heap.size := by have := r3.size; rw [alloc_size] at this; omega
    have HNN := Lib.hid (And.intro n1 (And.intro n3 (And.intro n2 (And.intro r1 (And.intro n5 n6)))))
    clear n1 n2 n3 n5 n6 r1 r2 r3 r4 hbl hal6
    go_wp2
    go_roundw
    case rel => exact ⟨k + 1, by omega, by go_num, ⟨_, _, HNN.out.1, HNN.out.2.1⟩, HNN.out.2.2.1, HNN.out.2.2.2.1, HNN.out.2.2.2.2.1, HNN.out.2.2.2.2.2⟩
    case measure => simp [intOf]; omega
end Go.Proofs.YtdcmbdghnkgghaaDoor

/- Chapter 8: what array.own computes: a copy of cells, each of its own. -/
import Derived.Test.YtlbnkoahkfhimaaC8i
namespace Go.Proofs.Ytlbnkoahkfhimaa
set_option linter.unusedVariables false
open Go Go.RowKit M
/-- A cell's bytes, that may be stored into; a row of them, that lie apart. -/
abbrev CELL : Rel Bs := OwnV R8 5
theorem okCELL : Ok CELL := okV ok8
abbrev ROW : Rel (List Bs) := OwnL CELL 23
theorem okROW : Ok ROW := okO okCELL
abbrev DISKS : Rel (List (List Bs)) := OwnL ROW 22
theorem okDISKS : Ok DISKS := okO okROW
theorem cell_rd {w : World} {F : Fp} {v : Value} {b : Bs} (h : CELL w F v b) : RdB w F v b := OwnV.toRd ok8 h
theorem row_rd {w : World} {F : Fp} {v : Value} {l : List Bs} (h : ROW w F v l) : RdBB w F v l := h.toRd okCELL (fun hx => cell_rd hx) okB
theorem disks_rd {w : World} {F : Fp} {v : Value} {D : List (List Bs)} (h : DISKS w F v D) : RdBBB w F v D := h.toRd okROW (fun hx => row_rd hx) okBB
/-- AT A STEP 'append(v, x)' of a statement that draws its order: the elements lie apart, x is newer than they. -/
theorem wp_append_apart {α : Type} {R : Rel α} {e : TypeId} {bytes : Nat} {w0 w : World} {o : Oper} {a : Act} {Q : Exit → Act → World → Prop} {K : Act → World → Prop} (s x : Operand) (t : TypeId)
    (ho : o.op = .call { callee := .builtin .append, args := #[s, x], argTypes := #[t, t] }) (ok : Ok R) (T : SlTy Try.prog t e bytes) (base : Nat) (v xv : Value) (xs : List α) (y : α)
    (hs : a.eval s = v) (hx : a.eval x = xv) (hown : OwnL R e w0 (fun k => base ≤ k) v xs) (hg : Below w0.heap.size w0 w) (hsrc : RdL R w (fun k => w0.heap.size ≤ k) xv [y])
    (hbytes : (xs.length + 1) * bytes ≤ 140737488355328) (hbase : base ≤ w0.heap.size)
    (h : ∀ v' w', OwnL R e w' (fun k => base ≤ k) v' (xs ++ [y]) → Below base w w' → w.grownBy w' v.ownBlock → (v'.ownBlock = v.ownBlock ∨ v'.ownBlock = some w.heap.size) → K (a.put o.dst v') w') : Oper.wp Try.prog o a w K Q := by
  have hsz := hg.size
  obtain ⟨fs, h1, h2, h3⟩ := (okO ok).lt hown
  have h4 := (okV (okG ok)).grow h3 hg
  have hb : Bld (G1 R) e w base (fun k => base ≤ k) v (xs.zip fs) := (h4.bld fun k hk => hk.1).mono (okG ok) fun k _ hk => hk.1
  have hold := h3.1.blk
  have hlz : (xs.zip fs).length = xs.length := by simp [h1]
  have hsrc' : RdL (G1 R) w (fun k => some k ≠ v.ownBlock ∧ base ≤ k) xv [(y, fun k => w0.heap.size ≤ k ∧ k < w.heap.size)] := by
    obtain ⟨us, r1, r2, r3⟩ := hsrc
    refine ⟨us, r1.mono fun k hk => ⟨fun ek => by have := (hold k ek.symm).2; omega, by omega⟩, by simpa using r2, fun j u z hu hz => ?_⟩
    match j with
    | 0 =>
      simp at hz
      subst hz
      exact ⟨ok.lt (r3 0 u y hu rfl), fun k hk => ⟨⟨fun ek => by have := (hold k ek.symm).2; omega, by omega⟩, hk.2⟩⟩
    | j + 1 => simp at hz
  refine wp_append_bld s x t ho (okG ok) T base (fun k => base ≤ k) v xv (xs.zip fs) [(y, fun k => w0.heap.size ≤ k ∧ k < w.heap.size)] hs hx hb hsrc' (by rw [hlz]; simpa using hbytes) (by omega) ?_
  intro v' w' g1 g2 g3 g4
  refine h v' w' ⟨fs ++ [fun k => w0.heap.size ≤ k ∧ k < w.heap.size], by simp [h1], h2.snoc fun g hgm k hk => ?_, OwnV.of (by rw [List.zip_append h1.symm]; exact g1) (okG ok) (fun k hk => hk) (fun k hk => hk)⟩ g2 g3 g4
  obtain ⟨j, hj, rfl⟩ := List.getElem_of_mem hgm
  obtain ⟨us, r1, r2, r3⟩ := h3.1
  have hju : j < us.length := by simp at r2; omega
  have := (r3 j us[j] (xs[j]'(by omega), fs[j]) (List.getElem?_eq_getElem hju) (by rw [List.getElem?_eq_getElem (by simp; omega)]; simp)).2 k hk
  have hlt := this.1.2.2
  omega
/-- It reads as x, from block B on. -/
def Rg {α : Type} (R : Rel α) (B : Nat) (x : α) : Know := fun w v => R w (fun k => B ≤ k ∧ k < w.heap.size) v x
theorem mRg {α : Type} {R : Rel α} (o : Ok R) (B : Nat) (x : α) : Mono (Rg R B x) := fun _ _ _ hb h => o.old h hb fun _ hk _ => ⟨hk.1, Nat.lt_of_lt_of_le hk.2 hb.size⟩
def Rf {α : Type} (R : Rel α) (F : Fp) (x : α) : Know := fun w v => R w F v x
theorem mRf {α : Type} {R : Rel α} (o : Ok R) (F : Fp) (x : α) : Mono (Rf R F x) := fun _ _ _ hb h => o.grow h hb
theorem okROWS : Ok (RdL ROW) := okL okROW
set_option maxHeartbeats 800000 in
theorem array_own (l : List Bs) (v : Value) (F : Fp) (w : World) (h : RdBB w F v l) (hn : l.length ≤ 200) (h8 : ∀ c ∈ l, c.length ≤ 1000) :
    Calls Try.prog 79 #[v] w fun e w' => ∃ v', e = .returned v' ∧ ROW w' (fun k => w.heap.size ≤ k) v' l ∧ Below w.heap.size w w' := by
  obtain ⟨A, c, rfl, _, hm⟩ := h.shape
  unfold maxLen at hm
  have H8 := Lib.hid h8
  clear h8
  go_enter Try.func79, Try.ntmps79
  go_wp2_with fail
  go_loopw [3, 8] (fun u i wr => ∃ k : Nat, k ≤ l.length ∧ i = .int .i64 k ∧ OwnL CELL 23 wr (fun k => w.heap.size ≤ k) u (l.take k) ∧ Below w.heap.size w wr) (fun _ i _ => l.length - (intOf i).toNat)
  case atStart => exact ⟨0, Nat.zero_le _, rfl, OwnL.nil_ _ _ _ _, Below.refl _ _⟩
  case round =>
    obtain ⟨k, hk, rfl, hO, hlw⟩ := hrel
    have HLW := Lib.hid hlw
    by_cases hlt : k < l.length
    · obtain ⟨b, off, u, rfl, _, hu, hR⟩ := (okBB.grow h hlw).at_ hlt
      obtain ⟨A2, c2, rfl, _, _⟩ := hR.shape
      have HX := Lib.hid (show l.take k ++ [l[k]] = l.take (k + 1) by rw [List.take_succ_eq_append_getElem hlt])
      have HT := Lib.hid (show ((l.take k).length + 1) * 24 ≤ 140737488355328 by rw [List.length_take]; omega)
      have HL := Lib.hid (H8.out _ (List.getElem_mem hlt))
      have HO := Lib.hid hO
      clear hO hlw
      go_wp2_with fail
      refine (clone_B l[k] _ _ _ hR HL.out).mono ?_
      rintro e w2 ⟨v2, rfl, hv2, hb2⟩
      have hr2 : CELL w2 (fun k => wr.heap.size ≤ k) v2 l[k] := OwnV.of (hv2.bytes (G' := fun k => wr.heap.size ≤ k)) ok8 (fun _ hk => hk) (fun _ hk => hk)
      obtain ⟨A3, c3, rfl, _, _⟩ := (cell_rd hr2).shape
      have HR2 := Lib.hid hr2
      have HB2 := Lib.hid hb2
      clear hv2 hr2 hb2 hR
      go_wp2_with (at_builtin; refine wpList_append_apart rfl _ _ 22 rfl okCELL slBB w.heap.size _ _ l[k] _ rfl (by rfl) (by rfl) HO.out HB2.out HR2.out HT.out HLW.out.size ?c1)
      case c1 =>
      intro v' w' hB hb

      go_wp2
      go_roundw
      case rel => exact ⟨k + 1, by omega, by go_num, hB, HLW.out.trans ((HB2.out.mono HLW.out.size).trans hb)⟩
      case measure => simp [intOf]; omega
    · obtain rfl : k = l.length := by omega
      rw [List.take_length] at hO
      go_wp2
      go_ret
      exact ⟨_, rfl, hO, hlw⟩
set_option maxRecDepth 100000 in
set_option maxHeartbeats 1600000 in
theorem array_Own0 (a : Arr) (v : Value) (F : Fp) (w : World) (h : RdA w F v a) (hsh : Shape a.disks) (hno : a.ints = []) :
    Calls Try.prog 64 #[v] w fun e w' => ∃ dv, e = .returned (.agg #[dv, .slice none 0 0]) ∧ DISKS w' (fun k => w.heap.size ≤ k) dv a.disks ∧ Below w.heap.size w w' := by
  obtain ⟨b0, o0, c0, Ai, ci, rfl, hD, hI, hc0, hc1⟩ := RdA_open h hsh
  rw [show a.ints.length = 0 by rw [hno]; rfl] at *
  obtain ⟨w1, hW, hA, hZ, hX, hB, hsz⟩ := boxes3 w [.slice (some ⟨b0, o0, none⟩) 4 c0, .slice Ai 0 ci] [.slice none 0 0, .slice none 0 0] [.slice none 0 0, .slice none 0 0] 41 41 41
  change (((w.alloc (.cells #[.slice (some ⟨b0, o0, none⟩) 4 c0, .slice Ai 0 ci] 41)).alloc (.cells #[.slice none 0 0, .slice none 0 0] 41)).alloc (.cells #[.slice none 0 0, .slice none 0 0] 41)) = w1 at hW
  obtain ⟨x0, x1, x2, x3⟩ := hA.two
  have HSZ := Lib.hid hsz
  have HS := Lib.hid hsh
  clear hI h hno hsh hsz
  go_enter Try.func64, Try.ntmps64
  go_wp2_with fail
  clear hW x0 x1 x2 x3
  go_loopw [11] (fun i wr => ∃ k : Nat, k ≤ 4 ∧ i = .int .i64 k ∧ (∃ dv, BoxAt wr (w.heap.size + 1 + 1) 41 [dv, .slice none 0 0] ∧ DISKS wr (fun k => w.heap.size + 3 ≤ k) dv (a.disks.take k)) ∧ BoxAt wr w.heap.size 41 [.slice (some ⟨b0, o0, none⟩) 4 c0, .slice Ai 0 ci] ∧ BoxAt wr (w.heap.size + 1) 41 [.slice none 0 0, .slice none 0 0] ∧ Below w.heap.size w wr ∧ w.heap.size + 3 ≤ wr.heap.size) (fun i _ => 4 - (intOf i).toNat)
  case atStart => exact ⟨0, Nat.zero_le _, rfl, ⟨_, hX, OwnL.nil_ _ _ _ _⟩, hA, hZ, hB, by rw [HSZ.out]; exact Nat.le_refl _⟩
  case round =>
    obtain ⟨k, hk, rfl, ⟨dv, hX1, hO1⟩, hA1, hZ1, hB1, hs1⟩ := hrel
    obtain ⟨x0, x1, x2, x3⟩ := hA1.two
    by_cases hlt : k < 4
    · obtain ⟨b, off, u, e1, _, hu, hR⟩ := (okBBB.grow hD hB1).at_ (k := k) (by rw [HS.out.1]; exact hlt)
      injection e1 with e1
      injection e1 with e2 e3
      subst e2; subst e3
      obtain ⟨row, hrow⟩ : ∃ r, a.disks[k]'(by rw [HS.out.1]; exact hlt) = r := ⟨_, rfl⟩
      rw [hrow] at hR
      have hrm := HS.out.2 row (by rw [← hrow]; exact List.getElem_mem _)
      obtain ⟨Ar, cr, rfl, _, _⟩ := hR.shape
      have HX := Lib.hid (show a.disks.take k ++ [row] = a.disks.take (k + 1) by rw [List.take_succ_eq_append_getElem (by rw [HS.out.1]; exact hlt), hrow])
      have HT := Lib.hid (show ((a.disks.take k).length + 1) * 24 ≤ 140737488355328 by rw [List.length_take]; omega)
      obtain ⟨Av, cv, rfl, _, _⟩ := (disks_rd hO1).shape
      have htk : (a.disks.take k).length = k := by rw [List.length_take, HS.out.1]; omega
      rw [htk] at hX1 hO1
      have H1 := Lib.hid (And.intro hX1 (And.intro hO1 (And.intro hA1 (And.intro hZ1 (And.intro hB1 hs1)))))
      have HR := Lib.hid hR
      have HRM := Lib.hid hrm
      clear hX1 hO1 hZ1 hA1 hR hrow hrm hB1
      go_wp2_with fail
      clear x0 x1 x2 x3 hu
      refine region_three (w.heap.size + 1 + 1) [Ck (.pointer (some ⟨w.heap.size + 1 + 1, 0, none⟩)), Ck (.slice Av k cv), Ck (.slice Ar row.length cr), Ek 0 (Rg ROW wr.heap.size row), Ek 0 (Rg (RdL ROW) wr.heap.size [row]), Fk 1 (Rf DISKS (fun q => w.heap.size + 3 ≤ q) (a.disks.take (k + 1))), Ck (.pointer (some ⟨w.heap.size + 1 + 1, 0, none⟩)), Tk] (fun m wx => (m ≤ 1 → BoxAt wx (w.heap.size + 1 + 1) 41 [.slice Av k cv, .slice none 0 0]) ∧ (m = 0 → Below wr.heap.size wr wx) ∧ (m = 2 → ∃ dv', BoxAt wx (w.heap.size + 1 + 1) 41 [dv', .slice none 0 0] ∧ DISKS wx (fun q => w.heap.size + 3 ≤ q) dv' (a.disks.take (k + 1))) ∧ w.heap.size + 3 ≤ wx.heap.size) [5, 7] (by kernel_rfl) (by kernel_rfl) (by kernel_rfl) (by kernel_rfl) (by kernel_rfl) ?_ ?_ (fun m w w' hb h => ⟨fun e => (h.1 e).grow hb, fun e => (h.2.1 e).trans (hb.mono (h.2.1 e).size), fun e => (h.2.2.1 e).imp fun dv hv => ⟨hv.1.grow hb, okDISKS.grow hv.2 hb⟩, Nat.le_trans h.2.2.2 hb.size⟩) (⟨fun _ => H1.out.1, fun _ => Below.refl _ _, fun h => absurd h (by decide), hs1⟩) ?_ ?_
      · first | exact Nat.le_refl _ | assumption | omega
      · repeat (first | exact trivial | refine ⟨mCk _, ?_⟩ | refine ⟨mTk, ?_⟩ | refine ⟨mEk _ (by first | exact mC _ | exact mT | exact mR okB _ | exact mR okBB _ | exact mR okBBB _ | exact mRn okB _ _ | exact mRn okBB _ _ | exact mOw _ _ _ _ | exact mRm okB _ _ _ | exact mRa _ _ | exact mRg okROW _ _ | exact mRg okROWS _ _ | exact mRf okDISKS _ _ | exact mRg okCELL _ _), ?_⟩ | refine ⟨mFk _ (by first | exact mC _ | exact mT | exact mR okB _ | exact mR okBB _ | exact mR okBBB _ | exact mRn okB _ _ | exact mRn okBB _ _ | exact mOw _ _ _ _ | exact mRm okB _ _ _ | exact mRa _ _ | exact mRg okROW _ _ | exact mRg okROWS _ _ | exact mRf okDISKS _ _ | exact mRg okCELL _ _), ?_⟩ | refine ⟨fun _ => (by first | exact mC _ | exact mT | exact mR okB _ | exact mR okBB _ | exact mR okBBB _ | exact mRn okB _ _ | exact mRn okBB _ _ | exact mOw _ _ _ _ | exact mRm okB _ _ _ | exact mRa _ _ | exact mRg okROW _ _ | exact mRg okROWS _ _ | exact mRf okDISKS _ _ | exact mRg okCELL _ _), ?_⟩)
      · simp only [StepsL3]
        refine ⟨?_, ?_, ?_, ?_, ?_, ?_, ?_, ?_, trivial⟩
        · refine @id (StepG _ _ _ _ _ _ _ _ _ _ _) ?_
          intro nst ys wx hn hmay hw hS hd
          intro K hK
          simp only [putL, Act.put, List.setIfInBounds_toArray, List.set_cons_zero, List.set_cons_succ, Nat.zero_add, Nat.reduceAdd] at hK ⊢
          rw [if_pos (by rfl)]
          go_simp
          exact hK _ _ (Below.refl _ _) rfl
        · refine @id (StepG _ _ _ _ _ _ _ _ _ _ _) ?_
          intro nst ys wx hn hmay hw hS hd
          obtain rfl : nst = 0 := may_one hmay hn (by kernel_rfl)
          intro K hK
          have e0 : ys 0 = _ := hd 0 (by decide)
          simp only [putL, Act.put, List.setIfInBounds_toArray, List.set_cons_zero, List.set_cons_succ, Nat.zero_add, Nat.reduceAdd, e0] at hK ⊢
          rw [if_pos (by rfl)]
          obtain ⟨x0, x1, x2, x3⟩ := (hS.1 (by decide)).two
          go_simp
          exact hK _ _ (Below.refl _ _) rfl
        · refine @id (StepG _ _ _ _ _ _ _ _ _ _ _) ?_
          intro nst ys wx hn hmay hw hS hd
          intro K hK
          simp only [putL, Act.put, List.setIfInBounds_toArray, List.set_cons_zero, List.set_cons_succ, Nat.zero_add, Nat.reduceAdd] at hK ⊢
          rw [if_pos (by rfl)]
          go_simp
          exact hK _ _ (Below.refl _ _) rfl
        · refine @id (StepG _ _ _ _ _ _ _ _ _ _ _) ?_
          intro nst ys wx hn hmay hw hS hd
          obtain rfl : nst = 0 := may_one hmay hn (by kernel_rfl)
          intro K hK
          have e2 : ys 2 = _ := hd 2 (by decide)
          simp only [putL, Act.put, List.setIfInBounds_toArray, List.set_cons_zero, List.set_cons_succ, Nat.zero_add, Nat.reduceAdd, e2] at hK ⊢
          rw [if_pos (by rfl)]
          go_simp
          refine (array_own row _ _ _ (okBB.grow (okBB.lt HR.out) (hS.2.1 rfl)) (by rw [HRM.out.1]; decide) (fun c hc => Nat.le_trans (HRM.out.2 c hc) (by decide))).mono ?_
          rintro e w' ⟨v', rfl, hv', hb'⟩
          exact hK _ _ hb' (okROW.mono (okROW.lt hv') fun q hq => ⟨Nat.le_trans (hS.2.1 rfl).size hq.1, hq.2⟩)
        · refine @id (StepG _ _ _ _ _ _ _ _ _ _ _) ?_
          intro nst ys wx hn hmay hw hS hd
          obtain rfl : nst = 0 := may_one hmay hn (by kernel_rfl)
          intro K hK
          have k3 := hd 3 (by decide)
          change (Rg ROW wr.heap.size row) wx (ys 3) at k3
          simp only [putL, Act.put, List.setIfInBounds_toArray, List.set_cons_zero, List.set_cons_succ, Nat.zero_add, Nat.reduceAdd] at hK ⊢
          rw [if_pos (by rfl)]
          have k3' : ROW wx (fun q => wr.heap.size ≤ q ∧ q < wx.heap.size) (ys 3) row := k3
          obtain ⟨A3, c3, hy, _, _⟩ := (row_rd k3').shape
          rw [hy] at k3'
          simp only [hy] at hK ⊢
          clear k3 hy
          have hso := (hS.2.1 rfl).size
          go_simp
          exact hK _ _ (below_alloc _ _) (okROWS.lt (RdL.one_ okROW (F := fun q => wr.heap.size ≤ q) (okROW.mono k3' fun q hq => hq.1) _ hso))
        · refine @id (StepS _ _ _ _ _ _ _ _ _ _ _) ?_
          intro ys wx hw hS hd K hK
          have e1 : ys 1 = _ := hd 1 (by decide)
          have k4 := hd 4 (by decide)
          change (Rg (RdL ROW) wr.heap.size [row]) wx (ys 4) at k4
          simp only [putL, Act.put, List.setIfInBounds_toArray, List.set_cons_zero, List.set_cons_succ, Nat.zero_add, Nat.reduceAdd, e1] at hK ⊢
          rw [if_pos (by rfl)]
          have k4' : RdL ROW wx (fun q => wr.heap.size ≤ q ∧ q < wx.heap.size) (ys 4) [row] := k4
          refine wp_append_apart _ _ 38 (by rfl) okROW slBBB (w.heap.size + 3) (.slice Av k cv) (ys 4) (a.disks.take k) row (by rfl) (by rfl) H1.out.2.1 (hS.2.1 rfl) (okROWS.mono k4' fun q hq => hq.1) HT.out hs1 ?_
          intro v' w' g1 g2 g3 g4
          rw [HX.out] at g1
          have hne : some (w.heap.size + 1 + 1) ≠ (Value.slice Av k cv).ownBlock := fun e => by have := (H1.out.2.1.blk _ e.symm).1; omega
          exact hK _ _ (g2.mono (by omega)) ⟨fun _ => (g3.block _ (hS.1 (by decide)).lt hne).trans (hS.1 (by decide)), fun e => absurd e (by decide), fun e => absurd e (by decide), Nat.le_trans hS.2.2.2 g2.size⟩ g1 ⟨fun _ h => h, fun _ h => h, fun _ h => h, fun _ _ => trivial, fun _ _ => trivial, fun _ h => h.elim, fun _ h => h, fun _ h => h, trivial⟩
        · refine @id (StepG _ _ _ _ _ _ _ _ _ _ _) ?_
          intro nst ys wx hn hmay hw hS hd
          intro K hK
          simp only [putL, Act.put, List.setIfInBounds_toArray, List.set_cons_zero, List.set_cons_succ, Nat.zero_add, Nat.reduceAdd] at hK ⊢
          rw [if_pos (by rfl)]
          go_simp
          exact hK _ _ (Below.refl _ _) rfl
        · refine @id (StepS _ _ _ _ _ _ _ _ _ _ _) ?_
          intro ys wx hw hS hd K hK
          have k5 := hd 5 (by decide)
          change (Rf DISKS (fun q => w.heap.size + 3 ≤ q) (a.disks.take (k + 1))) wx (ys 5) at k5
          have e6 : ys 6 = _ := hd 6 (by decide)
          simp only [putL, Act.put, List.setIfInBounds_toArray, List.set_cons_zero, List.set_cons_succ, Nat.zero_add, Nat.reduceAdd, e6] at hK ⊢
          rw [if_pos (by rfl)]
          have k5' : DISKS wx (fun q => w.heap.size + 3 ≤ q) (ys 5) (a.disks.take (k + 1)) := k5
          obtain ⟨g, cg, hy, _, _, _, _⟩ := k5'.form (by rw [List.length_take, HS.out.1]; omega)
          rw [show (a.disks.take (k + 1)).length = k + 1 by rw [List.length_take, HS.out.1]; omega] at hy
          rw [hy] at k5'
          simp only [hy] at hK ⊢
          clear k5
          obtain ⟨x0, x1, x2, x3⟩ := (hS.1 (by decide)).two
          have hbs := (Below.refl (w.heap.size + 1 + 1) wx).setCell (p := ⟨w.heap.size + 1 + 1, 0, none⟩) (Nat.le_refl _) (.slice (some ⟨g, 0, none⟩) (k + 1) cg)
          have f1 := (hS.1 (by decide)).set_ 0 (.slice (some ⟨g, 0, none⟩) (k + 1) cg)
          have f2 := okDISKS.setc k5' (b := w.heap.size + 1 + 1) (j := 0) (v := .slice (some ⟨g, 0, none⟩) (k + 1) cg) (fun q hq => by omega)
          have f3 : w.heap.size + 3 ≤ (wx.setCell ⟨w.heap.size + 1 + 1, 0, none⟩ (.slice (some ⟨g, 0, none⟩) (k + 1) cg)).heap.size := by rw [setCell_size]; exact hS.2.2.2
          go_simp
          exact hK undef _ hbs ⟨fun e => absurd e (by decide), fun e => absurd e (by decide), fun _ => ⟨_, f1, f2⟩, f3⟩ trivial ⟨fun _ h => h, fun _ h => h, fun _ h => h, fun _ h => h, fun _ h => h, fun _ h => okDISKS.setc h (fun q hq => by omega), fun _ h => h, fun _ h => h, trivial⟩
      · intro ys w' hl' hS' hV
        clear hV
        simp only [putL, Act.put, List.setIfInBounds_toArray, List.set_cons_zero, List.set_cons_succ, Nat.zero_add, Nat.reduceAdd]
        obtain ⟨dv', n1, n2⟩ := hS'.2.2.1 rfl
        have hle : w.heap.size + 1 + 1 ≤ wr.heap.size := by omega
        have n3 : BoxAt _ w.heap.size _ _ := H1.out.2.2.1.keep hl' (by omega)
        have n4 : BoxAt _ (w.heap.size + 1) _ _ := H1.out.2.2.2.1.keep hl' (by omega)
        have n5 := H1.out.2.2.2.2.1.trans (hl'.mono (by omega))
        have HN := Lib.hid (And.intro n1 (And.intro n2 (And.intro n3 (And.intro n4 (And.intro n5 hS'.2.2.2)))))
        clear n1 n2 n3 n4 n5 hS' hl'
        go_wp2
        go_roundw
        case rel => exact ⟨k + 1, by omega, by go_num, ⟨_, HN.out.1, HN.out.2.1⟩, HN.out.2.2.1, HN.out.2.2.2.1, HN.out.2.2.2.2.1, HN.out.2.2.2.2.2⟩
        case measure => simp [intOf]; omega
    · obtain rfl : k = 4 := by omega
      rw [List.take_of_length_le (by rw [HS.out.1]; exact Nat.le_refl _)] at hO1
      have H1 := Lib.hid (And.intro hX1 (And.intro hO1 (And.intro hZ1 (And.intro hB1 hs1))))
      clear hX1 hO1 hZ1 hB1 hs1 hk hlt
      go_wp2_with fail
      rename World => w2
      go_loopw [26] (fun i wr => i = .int .i64 0 ∧ wr = w2) (fun _ _ => 0)
      case atStart => exact ⟨rfl, rfl⟩
      case round =>
        obtain ⟨rfl, rfl⟩ := hrel
        obtain ⟨hX1, hO1, hZ1, hB1, hs1⟩ := H1.out
        obtain ⟨x0, x1, x2, x3⟩ := hX1.two
        obtain ⟨z0, z1, z2, z3⟩ := hZ1.two
        obtain ⟨g, c, rfl, _, _, _, _⟩ := hO1.form (by rw [HS.out.1]; decide)
        rw [HS.out.1] at *
        have f1 : DISKS (set2 wr (w.heap.size + 1) (.slice (some ⟨g, 0, none⟩) 4 c) (.slice none 0 0)) _ _ _ := okDISKS.set2 hO1 (b := w.heap.size + 1) fun k hk => by omega
        have f2 := hB1.trans (below_set2 (b := w.heap.size + 1) (v0 := .slice (some ⟨g, 0, none⟩) 4 c) (v1 := .slice none 0 0) (Nat.le_succ _))
        have HF := Lib.hid (And.intro (okDISKS.mono f1 (F' := fun k => w.heap.size ≤ k) fun k hk => by omega) f2)
        clear hX1 hO1 hZ1 hB1 f1 f2 H1
        go_wp2_with fail
        exact bodyPost_ret (v := .agg #[.slice (some ⟨g, 0, none⟩) 4 c, .slice none 0 0]) (by simp [results, Try.results64, go_sem, *]) rfl ⟨_, rfl, HF.out.1, HF.out.2⟩
end Go.Proofs.Ytlbnkoahkfhimaa

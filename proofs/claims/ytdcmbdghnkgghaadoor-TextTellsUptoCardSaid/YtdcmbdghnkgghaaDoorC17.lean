/- Chapter 8: what array.Write computes. -/
import Derived.Test.YtdcmbdghnkgghaaDoorC16
import Derived.Test.YtdcmbdghnkgghaaDoorZh
import Derived.Test.YtdcmbdghnkgghaaDoorZf
namespace Go.Proofs.YtdcmbdghnkgghaaDoor
set_option linter.unusedVariables false
open Go Go.RowKit M
/-- No intents, or one that is right. -/
def IntsOk (a : Arr) : Prop := a.ints = [] ∨ ∃ i, a.ints = [i] ∧ IntOk i
theorem array_Own (a : Arr) (v : Value) (F : Fp) (w : World) (h : RdA w F v a) (hsh : Shape a.disks) (hi : IntsOk a) :
    Calls Tryd.prog 36 #[v] w fun e w' => ∃ dv iv B, e = .returned (.agg #[dv, iv]) ∧ DISKS w' (fun k => w.heap.size ≤ k ∧ k < B) dv a.disks ∧ RdIs w' (fun k => w.heap.size ≤ k ∧ B ≤ k) iv a.ints ∧ Below w.heap.size w w' := by
  rcases hi with hi | ⟨i, hi, hok⟩
  · refine (array_Own0 a v F w h hsh hi).mono ?_
    rintro e w' ⟨dv, rfl, h1, h2⟩
    exact ⟨dv, _, w'.heap.size, rfl, okDISKS.lt h1, by rw [hi]; exact RdIs.nil_ _ _ _ _ (by decide), h2⟩
  · refine (array_Own1 a i v F w h hsh hi hok.2.2.1 hok.2.2.2).mono ?_
    rintro e w' ⟨dv, iv, B, rfl, h1, h2, h3⟩
    exact ⟨dv, iv, B, rfl, h1, by rw [hi]; exact h2, h3⟩
theorem ints_le {a : Arr} (h : IntsOk a) : a.ints.length ≤ 1 := by
  rcases h with h | ⟨i, h, _⟩ <;> rw [h] <;> simp
theorem write_eq (a : Arr) (i : Int × List Bs) (n : Int) : writeA a i n = ⟨putTo a.disks i.1.toNat i.2 (cellsP n), if 5 < n then [] else if 0 < n then [i] else a.ints⟩ := rfl
set_option maxRecDepth 100000 in
set_option maxHeartbeats 3200000 in
theorem array_Write (a : Arr) (i : Int × List Bs) (n : Int) (v vi : Value) (F : Fp) {F2 : Fp} (w : World) (h : RdA w F v a) (hi : RdI w F2 vi i) (hsh : Shape a.disks) (hok : IntsOk a) (hio : IntOk i) (hn0 : -9223372036854775808 ≤ n) (hn1 : n ≤ 9223372036854775807) :
    Calls Tryd.prog 38 #[v, vi, .int .i64 n] w fun e w' => ∃ v', e = .returned v' ∧ RdA w' (fun k => w.heap.size ≤ k) v' (writeA a i n) ∧ Below w.heap.size w w' := by
  obtain ⟨hi3, his, hil, hic⟩ := hio
  obtain ⟨b0, o0, c0, Ai, ci, rfl, hD, hI, hc0, hc1⟩ := RdA_open h hsh
  obtain ⟨cv, rfl, hC⟩ := hi
  replace hC := okBB.lt hC
  obtain ⟨bc, oc, cc, rfl, hFbc, _, hcc, hcm⟩ := hC.form (by rw [hil]; decide)
  rw [hil] at hC hcc ⊢
  unfold maxLen at hcm
  obtain ⟨s, hs⟩ : ∃ s : Nat, i.1.toNat = s := ⟨_, rfl⟩
  rw [hs] at hi3 his
  rw [hi3]
  obtain ⟨w1, hW, hA, hX, hZ, hB, hsz⟩ := boxes3 w [.slice (some ⟨b0, o0, none⟩) 4 c0, .slice Ai a.ints.length ci] [.int .i64 (s : Int), .slice (some ⟨bc, oc, none⟩) 4 cc] [.slice none 0 0, .slice none 0 0] 37 78 37
  change (((w.alloc (.cells #[.slice (some ⟨b0, o0, none⟩) 4 c0, .slice Ai a.ints.length ci] 37)).alloc (.cells #[.int .i64 (s : Int), .slice (some ⟨bc, oc, none⟩) 4 cc] 78)).alloc (.cells #[.slice none 0 0, .slice none 0 0] 37)) = w1 at hW
  have hAr : RdA w1 (fun k => F k ∧ k < w.heap.size) (.agg #[.slice (some ⟨b0, o0, none⟩) 4 c0, .slice Ai a.ints.length ci]) a := ⟨_, _, rfl, okBBB.grow hD hB, okIs.grow hI hB⟩
  have HSZ := Lib.hid hsz
  have HS := Lib.hid (And.intro hsh hok)
  have HI := Lib.hid (And.intro hi3 (And.intro hs (And.intro hil hic)))
  have HC := Lib.hid (okBB.grow hC hB)
  obtain ⟨x0, x1, x2, x3⟩ := hA.two
  clear hsz hD hI h hsh hok hic hs hi3 hil hC
  go_enter Tryd.func38, Tryd.ntmps38
  go_wp2_with fail
  clear hW x0 x1 x2 x3
  refine (array_Own a _ _ _ hAr HS.out.1 HS.out.2).mono ?_
  rintro e w2 ⟨dv, iv, B, rfl, hO, hIs, hb2⟩
  rw [HSZ.out] at hO hIs
  obtain ⟨g, cg, rfl, hg0, hg1, hcg, hcgm⟩ := hO.form (by rw [HS.out.1.1]; decide)
  rw [HS.out.1.1] at hO hcg ⊢
  unfold maxLen at hcgm
  obtain ⟨Av, cv, rfl, _, _⟩ := hIs.shape
  have hal := below_alloc w2 (.cells #[.slice (some ⟨g, 0, none⟩) 4 cg, .slice Av a.ints.length cv] 37)
  have hO0 := boxAt_new w2 37 [.slice (some ⟨g, 0, none⟩) 4 cg, .slice Av a.ints.length cv]
  have hD3 := okDISKS.grow (okDISKS.lt hO) hal
  have hI3 := okIs.grow (okIs.lt hIs) hal
  have hb3 := hb2.trans (hal.mono hb2.size)
  have hX3 := hX.grow hb3
  have hZ3 := hZ.grow hb3
  have hB3 := hB.trans (hb3.mono hB.size)
  have hC3 := okBB.grow HC.out hb3
  have hszB := hb2.size
  rw [HSZ.out] at hszB
  obtain ⟨w3, hw3⟩ : ∃ x, w2.alloc (.cells #[.slice (some ⟨g, 0, none⟩) 4 cg, .slice Av a.ints.length cv] 37) = x := ⟨_, rfl⟩
  change BoxAt (w2.alloc (.cells #[.slice (some ⟨g, 0, none⟩) 4 cg, .slice Av a.ints.length cv] 37)) _ _ _ at hO0
  rw [hw3] at hO0 hD3 hI3 hX3 hZ3 hB3 hC3
  obtain ⟨BO, hBO⟩ : ∃ x, w2.heap.size = x := ⟨_, rfl⟩
  rw [hBO] at hO0 hD3 hI3 hszB
  have HXo := Lib.hid hO0
  have HDk := Lib.hid hD3
  have HIs := Lib.hid hI3
  have HXi := Lib.hid hX3
  have HZ := Lib.hid hZ3
  have HBel := Lib.hid hB3
  have HCc := Lib.hid hC3
  have hBOlt := hO0.lt
  clear hal hO0 hD3 hI3 hb3 hX3 hZ3 hB3 hC3 hO hIs hb2 hA hX hZ hB hAr hg0 hg1 HC
  by_cases hn : 0 < n
  · have d0 : decide (0 < n) = true := by simpa using hn
    go_wp2_with fail
    clear hw3 hBO
    have hbase : w.heap.size ≤ w3.heap.size := by omega
    refine region_three (w.heap.size) [Ck (.pointer (some ⟨w.heap.size + 1, 0, none⟩)), Ck (.int .i64 s), Ck (.pointer (some ⟨w.heap.size + 1, 1, none⟩)), Ck (.slice (some ⟨bc, oc, none⟩) 4 cc), Ek 0 (Rg RdBB w3.heap.size i.2), Ek 0 (Ri w3.heap.size ((s : Int), i.2)), Ek 0 (Rg RdIs w3.heap.size [((s : Int), i.2)]), Ck (.pointer (some ⟨BO, 1, none⟩)), Tk] (fun m wx => (m = 0 → BoxAt wx BO 37 [.slice (some ⟨g, 0, none⟩) 4 cg, .slice Av a.ints.length cv] ∧ Below w3.heap.size w3 wx) ∧ (m = 1 → ∃ A9 c9, BoxAt wx BO 37 [.slice (some ⟨g, 0, none⟩) 4 cg, .slice A9 1 c9] ∧ RdIs wx (fun q => w3.heap.size ≤ q) (.slice A9 1 c9) [((s : Int), i.2)]) ∧ BoxAt wx (w.heap.size + 1) 78 [.int .i64 (s : Int), .slice (some ⟨bc, oc, none⟩) 4 cc] ∧ DISKS wx (fun q => (w.heap.size + 3 ≤ q ∧ q < B) ∧ q < BO) (.slice (some ⟨g, 0, none⟩) 4 cg) a.disks ∧ BoxAt wx (w.heap.size + 1 + 1) 37 [.slice none 0 0, .slice none 0 0]) [8] (by kernel_rfl) (by kernel_rfl) (by kernel_rfl) (by kernel_rfl) (by kernel_rfl) ?_ ?_ (fun m w w' hb h => ⟨fun e => ⟨(h.1 e).1.grow hb, (h.1 e).2.trans (hb.mono (h.1 e).2.size)⟩, fun e => (h.2.1 e).imp fun A9 hv => hv.imp fun c9 hv => ⟨hv.1.grow hb, okIs.grow hv.2 hb⟩, h.2.2.1.grow hb, okDISKS.grow h.2.2.2.1 hb, h.2.2.2.2.grow hb⟩) (⟨fun _ => ⟨HXo.out, Below.refl _ _⟩, fun h => absurd h (by decide), HXi.out, HDk.out, HZ.out⟩) ?_ ?_
    · first | exact Nat.le_refl _ | assumption | omega
    · repeat (first | exact trivial | refine ⟨mCk _, ?_⟩ | refine ⟨mTk, ?_⟩ | refine ⟨mEk _ (by first | exact mC _ | exact mT | exact mR okB _ | exact mR okBB _ | exact mR okBBB _ | exact mRn okB _ _ | exact mRn okBB _ _ | exact mOw _ _ _ _ | exact mRm okB _ _ _ | exact mRa _ _ | exact mRg okROW _ _ | exact mRg okROWS _ _ | exact mRf okDISKS _ _ | exact mRg okCELL _ _ | exact mRg okBB _ _ | exact mRg okB _ _ | exact mRg okIs _ _ | exact mRi _ _ | exact mOx _ _), ?_⟩ | refine ⟨mFk _ (by first | exact mC _ | exact mT | exact mR okB _ | exact mR okBB _ | exact mR okBBB _ | exact mRn okB _ _ | exact mRn okBB _ _ | exact mOw _ _ _ _ | exact mRm okB _ _ _ | exact mRa _ _ | exact mRg okROW _ _ | exact mRg okROWS _ _ | exact mRf okDISKS _ _ | exact mRg okCELL _ _ | exact mRg okBB _ _ | exact mRg okB _ _ | exact mRg okIs _ _ | exact mRi _ _ | exact mOx _ _), ?_⟩ | refine ⟨fun _ => (by first | exact mC _ | exact mT | exact mR okB _ | exact mR okBB _ | exact mR okBBB _ | exact mRn okB _ _ | exact mRn okBB _ _ | exact mOw _ _ _ _ | exact mRm okB _ _ _ | exact mRa _ _ | exact mRg okROW _ _ | exact mRg okROWS _ _ | exact mRf okDISKS _ _ | exact mRg okCELL _ _ | exact mRg okBB _ _ | exact mRg okB _ _ | exact mRg okIs _ _ | exact mRi _ _ | exact mOx _ _), ?_⟩)
    · simp only [StepsL3]
      refine ⟨?_, ?_, ?_, ?_, ?_, ?_, ?_, ?_, ?_, trivial⟩
      · refine @id (StepG _ _ _ _ _ _ _ _ _ _ _) ?_
        intro nst ys wx hn hmay hw hS hd
        intro K hK
        simp only [putL, Act.put, List.setIfInBounds_toArray, List.set_cons_zero, List.set_cons_succ, Nat.zero_add, Nat.reduceAdd] at hK ⊢
        rw [if_pos (by rfl)]
        go_simp
        exact hK _ _ (Below.refl _ _) rfl
      · refine @id (StepG _ _ _ _ _ _ _ _ _ _ _) ?_
        intro nst ys wx hn hmay hw hS hd
        obtain rfl : nst = 0 := may_one hmay hn (by kernel_rfl)
        intro K hK
        have e0 : ys 0 = _ := hd 0 (by decide)
        simp only [putL, Act.put, List.setIfInBounds_toArray, List.set_cons_zero, List.set_cons_succ, Nat.zero_add, Nat.reduceAdd, e0] at hK ⊢
        rw [if_pos (by rfl)]
        obtain ⟨x0, x1, x2, x3⟩ := hS.2.2.1.two
        go_simp
        exact hK _ _ (Below.refl _ _) rfl
      · refine @id (StepG _ _ _ _ _ _ _ _ _ _ _) ?_
        intro nst ys wx hn hmay hw hS hd
        intro K hK
        simp only [putL, Act.put, List.setIfInBounds_toArray, List.set_cons_zero, List.set_cons_succ, Nat.zero_add, Nat.reduceAdd] at hK ⊢
        rw [if_pos (by rfl)]
        go_simp
        exact hK _ _ (Below.refl _ _) rfl
      · refine @id (StepG _ _ _ _ _ _ _ _ _ _ _) ?_
        intro nst ys wx hn hmay hw hS hd
        obtain rfl : nst = 0 := may_one hmay hn (by kernel_rfl)
        intro K hK
        have e2 : ys 2 = _ := hd 2 (by decide)
        simp only [putL, Act.put, List.setIfInBounds_toArray, List.set_cons_zero, List.set_cons_succ, Nat.zero_add, Nat.reduceAdd, e2] at hK ⊢
        rw [if_pos (by rfl)]
        obtain ⟨x0, x1, x2, x3⟩ := hS.2.2.1.two
        go_simp
        exact hK _ _ (Below.refl _ _) rfl
      · refine @id (StepG _ _ _ _ _ _ _ _ _ _ _) ?_
        intro nst ys wx hn hmay hw hS hd
        obtain rfl : nst = 0 := may_one hmay hn (by kernel_rfl)
        intro K hK
        have e3 : ys 3 = _ := hd 3 (by decide)
        simp only [putL, Act.put, List.setIfInBounds_toArray, List.set_cons_zero, List.set_cons_succ, Nat.zero_add, Nat.reduceAdd, e3] at hK ⊢
        rw [if_pos (by rfl)]
        go_simp
        refine (array_own i.2 _ _ _ (okBB.grow (okBB.lt HCc.out) (hS.1 rfl).2) (by rw [HI.out.2.2.1]; decide) (fun c hc => Nat.le_trans (HI.out.2.2.2 c hc) (by decide))).mono ?_
        rintro e w' ⟨v', rfl, hv', hb'⟩
        exact hK _ _ hb' (okBB.mono (okBB.lt (row_rd hv')) fun q hq => ⟨Nat.le_trans (hS.1 rfl).2.size hq.1, hq.2⟩)
      · refine @id (StepG _ _ _ _ _ _ _ _ _ _ _) ?_
        intro nst ys wx hn hmay hw hS hd
        obtain rfl : nst = 0 := may_one hmay hn (by kernel_rfl)
        intro K hK
        have e1 : ys 1 = _ := hd 1 (by decide)
        have k4 := hd 4 (by decide)
        change (Rg RdBB w3.heap.size i.2) wx (ys 4) at k4
        simp only [putL, Act.put, List.setIfInBounds_toArray, List.set_cons_zero, List.set_cons_succ, Nat.zero_add, Nat.reduceAdd, e1] at hK ⊢
        rw [if_pos (by rfl)]
        have k4' : RdBB wx (fun q => w3.heap.size ≤ q ∧ q < wx.heap.size) (ys 4) i.2 := k4
        obtain ⟨A6, c6, hy, _, _⟩ := k4'.shape
        rw [hy] at k4'
        simp only [hy] at hK ⊢
        clear k4 hy
        go_simp
        exact hK _ _ (Below.refl _ _) ⟨_, rfl, k4'⟩
      · refine @id (StepG _ _ _ _ _ _ _ _ _ _ _) ?_
        intro nst ys wx hn hmay hw hS hd
        obtain rfl : nst = 0 := may_one hmay hn (by kernel_rfl)
        intro K hK
        have k5 := hd 5 (by decide)
        change (Ri w3.heap.size ((s : Int), i.2)) wx (ys 5) at k5
        simp only [putL, Act.put, List.setIfInBounds_toArray, List.set_cons_zero, List.set_cons_succ, Nat.zero_add, Nat.reduceAdd] at hK ⊢
        rw [if_pos (by rfl)]
        obtain ⟨cv', hy, k5'⟩ := k5
        obtain ⟨A6, c6, rfl, _, _⟩ := k5'.shape
        simp only [hy] at hK ⊢
        clear hy
        have hso := (hS.1 rfl).2.size
        go_simp
        exact hK _ _ (below_alloc _ _) (okIs.mono (okIs.lt (RdIs.one_ (F := fun q => w3.heap.size ≤ q) (okBB.mono k5' fun q hq => hq.1) _ hso)) fun q hq => hq)
      · refine @id (StepG _ _ _ _ _ _ _ _ _ _ _) ?_
        intro nst ys wx hn hmay hw hS hd
        intro K hK
        simp only [putL, Act.put, List.setIfInBounds_toArray, List.set_cons_zero, List.set_cons_succ, Nat.zero_add, Nat.reduceAdd] at hK ⊢
        rw [if_pos (by rfl)]
        go_simp
        exact hK _ _ (Below.refl _ _) rfl
      · refine @id (StepS _ _ _ _ _ _ _ _ _ _ _) ?_
        intro ys wx hw hS hd K hK
        have k6 := hd 6 (by decide)
        change (Rg RdIs w3.heap.size [((s : Int), i.2)]) wx (ys 6) at k6
        have e7 : ys 7 = _ := hd 7 (by decide)
        simp only [putL, Act.put, List.setIfInBounds_toArray, List.set_cons_zero, List.set_cons_succ, Nat.zero_add, Nat.reduceAdd, e7] at hK ⊢
        rw [if_pos (by rfl)]
        have k6' : RdIs wx (fun q => w3.heap.size ≤ q ∧ q < wx.heap.size) (ys 6) [((s : Int), i.2)] := k6
        obtain ⟨A9, c9, hy, _, _⟩ := k6'.shape
        rw [hy] at k6'
        simp only [hy] at hK ⊢
        clear k6 hy
        obtain ⟨x0, x1, x2, x3⟩ := (hS.1 rfl).1.two
        have hbs := (Below.refl w.heap.size wx).setCell (p := ⟨BO, 1, none⟩) (by show w.heap.size ≤ BO; omega) (.slice A9 1 c9)
        have f1 := (hS.1 rfl).1.set_ 1 (.slice A9 1 c9)
        have f2 := okIs.setc k6' (b := BO) (j := 1) (v := .slice A9 1 c9) (fun q hq => by omega)
        have f3 := hS.2.2.1.far (b' := BO) (j := 1) (v := .slice A9 1 c9) (by omega)
        have f4 := okDISKS.setc hS.2.2.2.1 (b := BO) (j := 1) (v := .slice A9 1 c9) (fun q hq => by omega)
        have f5 := hS.2.2.2.2.far (b' := BO) (j := 1) (v := .slice A9 1 c9) (by omega)
        go_simp
        exact hK undef _ hbs ⟨fun e => absurd e (by decide), fun _ => ⟨A9, c9, f1, okIs.mono f2 fun q hq => hq.1⟩, f3, f4, f5⟩ trivial ⟨fun _ h => h, fun _ h => h, fun _ h => h, fun _ h => h, fun _ _ => trivial, fun _ _ => trivial, fun _ _ => trivial, fun _ h => h, fun _ h => h, trivial⟩
    · intro ys w' hl' hS' hV
      clear hV
      simp only [putL, Act.put, List.setIfInBounds_toArray, List.set_cons_zero, List.set_cons_succ, Nat.zero_add, Nat.reduceAdd]
      obtain ⟨A9, c9, n1, n2⟩ := hS'.2.1 rfl
      rename_i w5
      have HX' := Lib.hid n1
      have HI' := Lib.hid (okIs.lt n2)
      have HXi' := Lib.hid hS'.2.2.1
      have HD' := Lib.hid hS'.2.2.2.1
      have HZ' := Lib.hid hS'.2.2.2.2
      have HB' := Lib.hid (HBel.out.trans (hl'.mono (Nat.le_refl _)))
      have HC' := Lib.hid (okBB.below HCc.out hl' fun k hk _ => hk.2)
      clear n1 n2 hS' hl' HXo HDk HIs HXi HZ HBel HCc
      by_cases h5 : 4 < n - 1
      · have d4 : decide (4 < n - 1) = true := by simpa using h5
        go_wp2_with fail
        rename World => wL
        have HDr := Lib.hid (disks_r HD'.out)
        have hsL := HB'.out.size
        have hBOL := HX'.out.lt
        go_loopw [25] (fun v wr => ∃ k : Nat, k ≤ 4 ∧ v = .int .i64 k ∧ DISKSr wr (fun q => ((w.heap.size + 3 ≤ q ∧ q < B) ∧ q < BO) ∨ (wL.heap.size ≤ q ∧ q < wr.heap.size)) (.slice (some ⟨g, 0, none⟩) 4 cg) (putTo a.disks s i.2 k) ∧ BoxAt wr BO 37 [.slice (some ⟨g, 0, none⟩) 4 cg, .slice A9 1 c9] ∧ RdIs wr (fun q => w3.heap.size ≤ q ∧ q < wL.heap.size) (.slice A9 1 c9) [((s : Int), i.2)] ∧ BoxAt wr (w.heap.size + 1) 78 [.int .i64 (s : Int), .slice (some ⟨bc, oc, none⟩) 4 cc] ∧ BoxAt wr (w.heap.size + 1 + 1) 37 [.slice none 0 0, .slice none 0 0] ∧ Below w.heap.size w wr ∧ wL.heap.size ≤ wr.heap.size ∧ RdBB wr (fun k => F2 k ∧ k < w.heap.size) (.slice (some ⟨bc, oc, none⟩) 4 cc) i.2) (fun v _ => 4 - (intOf v).toNat)
        case atStart => exact ⟨0, Nat.zero_le _, rfl, okDISKSr.mono HDr.out fun q hq => .inl hq, HX'.out, okIs.mono HI'.out fun q hq => by omega, HXi'.out, HZ'.out, HB'.out, Nat.le_refl _, HC'.out⟩
        case round =>
          obtain ⟨k, hk, rfl, hD, hXo, hIi, hXi, hZ, hB, hsr, hCc⟩ := hrel
          by_cases hlt : k < 4
          · have hbk : decide ((k : Int) < (4 : Int)) = true := by simp; omega
            have hk4 : k < 4 := by omega
            have hkl : k < i.2.length := by rw [HI.out.2.2.1]; exact hk4
            have hshk : Shape (putTo a.disks s i.2 k) := putTo_shape HS.out.1 s HI.out.2.2.2 k
            obtain ⟨u, hu, hRu⟩ := RdL_q hCc (k := k) (x := i.2[k]) (List.getElem?_eq_getElem hkl)
            obtain ⟨Ax, cx, rfl, _, _⟩ := hRu.shape
            obtain ⟨r, hr, hrl, _, _⟩ := hshk.cell hk4 (s := 0) (by decide)
            have hdl : k < (putTo a.disks s i.2 k).length := by rw [hshk.1]; exact hk4
            obtain ⟨u1, f1, a1, _, a3, _, _⟩ := hD.inner okROWr hdl
            obtain ⟨g1, c1, rfl, _, _, hc1, hc1m⟩ := a3.form (by rw [(List.getElem?_eq_some_iff.1 hr).2, hrl]; decide)
            rw [(List.getElem?_eq_some_iff.1 hr).2, hrl] at a1 hc1
            unfold maxLen at hc1m
            have HN := Lib.hid (show putTo a.disks s i.2 (k + 1) = setA (putTo a.disks s i.2 k) k s i.2[k] by rw [putTo_next]; simp [List.getD, List.getElem?_eq_getElem hkl])
            have HK := Lib.hid (And.intro hD (And.intro hXo (And.intro hXi (And.intro hZ (And.intro hIi (And.intro hB (And.intro hCc (And.intro hRu hshk))))))))
            have hgl := (hD.blk g rfl).2
            have hFbc' := hFbc.2
            have hcl8 : i.2[k].length ≤ 1000 := Nat.le_trans (HI.out.2.2.2 _ (List.getElem_mem hkl)) (by decide)
            have HCL := Lib.hid hcl8
            clear hD hXo hXi hZ hIi hB hCc hRu a3 hr hrl hcl8 hshk
            go_wp2_with fail
            have hbase : w.heap.size ≤ wr.heap.size := by omega
            refine region_three (w.heap.size) [Ck (.pointer (some ⟨BO, 0, none⟩)), Ck (.slice (some ⟨g, 0, none⟩) 4 cg), Ck (.int .i64 k), Ck (.pointer (some ⟨g, k, none⟩)), Ck (.slice (some ⟨g1, 0, none⟩) 3 c1), Ck (.pointer (some ⟨w.heap.size + 1, 0, none⟩)), Ck (.int .i64 s), Ck (.pointer (some ⟨w.heap.size + 1, 1, none⟩)), Ck (.slice (some ⟨bc, oc, none⟩) 4 cc), Ck (.int .i64 k), Ck (.pointer (some ⟨bc, oc + k, none⟩)), Ck (.slice Ax i.2[k].length cx), Ek 0 (Rg RdB wr.heap.size i.2[k]), Ck (.pointer (some ⟨g1, s, none⟩)), Tk] (fun m wx => (m = 0 → Below wr.heap.size wr wx) ∧ (m = 1 → DISKSr wx (fun q => ((w.heap.size + 3 ≤ q ∧ q < B) ∧ q < BO) ∨ (wL.heap.size ≤ q ∧ q < wx.heap.size)) (.slice (some ⟨g, 0, none⟩) 4 cg) (putTo a.disks s i.2 (k + 1))) ∧ BoxAt wx BO 37 [.slice (some ⟨g, 0, none⟩) 4 cg, .slice A9 1 c9] ∧ BoxAt wx (w.heap.size + 1) 78 [.int .i64 (s : Int), .slice (some ⟨bc, oc, none⟩) 4 cc] ∧ BoxAt wx (w.heap.size + 1 + 1) 37 [.slice none 0 0, .slice none 0 0] ∧ RdIs wx (fun q => w3.heap.size ≤ q ∧ q < wL.heap.size) (.slice A9 1 c9) [((s : Int), i.2)] ∧ wL.heap.size ≤ wx.heap.size ∧ RdBB wx (fun k => F2 k ∧ k < w.heap.size) (.slice (some ⟨bc, oc, none⟩) 4 cc) i.2) [14] (by kernel_rfl) (by kernel_rfl) (by kernel_rfl) (by kernel_rfl) (by kernel_rfl) ?_ ?_ (fun m w w' hb h => ⟨fun e => (h.1 e).trans (hb.mono (h.1 e).size), fun e => okDISKSr.mono (okDISKSr.grow (okDISKSr.lt (h.2.1 e)) hb) fun q hq => by have := hb.size; rcases hq.1 with h | h; exact .inl h; exact .inr ⟨h.1, by omega⟩, h.2.2.1.grow hb, h.2.2.2.1.grow hb, h.2.2.2.2.1.grow hb, okIs.grow h.2.2.2.2.2.1 hb, Nat.le_trans h.2.2.2.2.2.2.1 hb.size, okBB.grow h.2.2.2.2.2.2.2 hb⟩) (⟨fun _ => Below.refl _ _, fun h => absurd h (by decide), HK.out.2.1, HK.out.2.2.1, HK.out.2.2.2.1, HK.out.2.2.2.2.1, hsr, HK.out.2.2.2.2.2.2.1⟩) ?_ ?_
            · first | exact Nat.le_refl _ | assumption | omega
            · repeat (first | exact trivial | refine ⟨mCk _, ?_⟩ | refine ⟨mTk, ?_⟩ | refine ⟨mEk _ (by first | exact mC _ | exact mT | exact mR okB _ | exact mR okBB _ | exact mR okBBB _ | exact mRn okB _ _ | exact mRn okBB _ _ | exact mOw _ _ _ _ | exact mRm okB _ _ _ | exact mRa _ _ | exact mRg okROW _ _ | exact mRg okROWS _ _ | exact mRf okDISKS _ _ | exact mRg okCELL _ _ | exact mRg okBB _ _ | exact mRg okB _ _ | exact mRg okIs _ _ | exact mRi _ _ | exact mOx _ _), ?_⟩ | refine ⟨mFk _ (by first | exact mC _ | exact mT | exact mR okB _ | exact mR okBB _ | exact mR okBBB _ | exact mRn okB _ _ | exact mRn okBB _ _ | exact mOw _ _ _ _ | exact mRm okB _ _ _ | exact mRa _ _ | exact mRg okROW _ _ | exact mRg okROWS _ _ | exact mRf okDISKS _ _ | exact mRg okCELL _ _ | exact mRg okBB _ _ | exact mRg okB _ _ | exact mRg okIs _ _ | exact mRi _ _ | exact mOx _ _), ?_⟩ | refine ⟨fun _ => (by first | exact mC _ | exact mT | exact mR okB _ | exact mR okBB _ | exact mR okBBB _ | exact mRn okB _ _ | exact mRn okBB _ _ | exact mOw _ _ _ _ | exact mRm okB _ _ _ | exact mRa _ _ | exact mRg okROW _ _ | exact mRg okROWS _ _ | exact mRf okDISKS _ _ | exact mRg okCELL _ _ | exact mRg okBB _ _ | exact mRg okB _ _ | exact mRg okIs _ _ | exact mRi _ _ | exact mOx _ _), ?_⟩)
            · simp only [StepsL3]
              refine ⟨?_, ?_, ?_, ?_, ?_, ?_, ?_, ?_, ?_, ?_, ?_, ?_, ?_, ?_, ?_, trivial⟩
              · refine @id (StepG _ _ _ _ _ _ _ _ _ _ _) ?_
                intro nst ys wx hn hmay hw hS hd
                intro K hK
                simp only [putL, Act.put, List.setIfInBounds_toArray, List.set_cons_zero, List.set_cons_succ, Nat.zero_add, Nat.reduceAdd] at hK ⊢
                rw [if_pos (by rfl)]
                go_simp
                exact hK _ _ (Below.refl _ _) rfl
              · refine @id (StepG _ _ _ _ _ _ _ _ _ _ _) ?_
                intro nst ys wx hn hmay hw hS hd
                obtain rfl : nst = 0 := may_one hmay hn (by kernel_rfl)
                intro K hK
                have e0 : ys 0 = _ := hd 0 (by decide)
                simp only [putL, Act.put, List.setIfInBounds_toArray, List.set_cons_zero, List.set_cons_succ, Nat.zero_add, Nat.reduceAdd, e0] at hK ⊢
                rw [if_pos (by rfl)]
                obtain ⟨x0, x1, x2, x3⟩ := hS.2.2.1.two
                go_simp
                exact hK _ _ (Below.refl _ _) rfl
              · refine @id (StepG _ _ _ _ _ _ _ _ _ _ _) ?_
                intro nst ys wx hn hmay hw hS hd
                intro K hK
                simp only [putL, Act.put, List.setIfInBounds_toArray, List.set_cons_zero, List.set_cons_succ, Nat.zero_add, Nat.reduceAdd] at hK ⊢
                rw [if_pos (by rfl)]
                go_simp
                exact hK _ _ (Below.refl _ _) rfl
              · refine @id (StepG _ _ _ _ _ _ _ _ _ _ _) ?_
                intro nst ys wx hn hmay hw hS hd
                intro K hK
                have e1 : ys 1 = _ := hd 1 (by decide)
                have e2 : ys 2 = _ := hd 2 (by decide)
                simp only [putL, Act.put, List.setIfInBounds_toArray, List.set_cons_zero, List.set_cons_succ, Nat.zero_add, Nat.reduceAdd, e1, e2] at hK ⊢
                rw [if_pos (by rfl)]
                have r1 : (k : Int) < 4 := by omega
                have r0 : (0 : Int) ≤ k := by omega
                have r2 : (k : Int).toNat = k := by omega
                go_simp
                exact hK _ _ (Below.refl _ _) rfl
              · refine @id (StepG _ _ _ _ _ _ _ _ _ _ _) ?_
                intro nst ys wx hn hmay hw hS hd
                obtain rfl : nst = 0 := may_one hmay hn (by kernel_rfl)
                intro K hK
                have e3 : ys 3 = _ := hd 3 (by decide)
                simp only [putL, Act.put, List.setIfInBounds_toArray, List.set_cons_zero, List.set_cons_succ, Nat.zero_add, Nat.reduceAdd, e3] at hK ⊢
                rw [if_pos (by rfl)]
                have kx := ((hS.1 rfl).cell (p := ⟨g, k, none⟩) hgl).trans a1
                go_simp
                exact hK _ _ (Below.refl _ _) rfl
              · refine @id (StepG _ _ _ _ _ _ _ _ _ _ _) ?_
                intro nst ys wx hn hmay hw hS hd
                intro K hK
                simp only [putL, Act.put, List.setIfInBounds_toArray, List.set_cons_zero, List.set_cons_succ, Nat.zero_add, Nat.reduceAdd] at hK ⊢
                rw [if_pos (by rfl)]
                go_simp
                exact hK _ _ (Below.refl _ _) rfl
              · refine @id (StepG _ _ _ _ _ _ _ _ _ _ _) ?_
                intro nst ys wx hn hmay hw hS hd
                obtain rfl : nst = 0 := may_one hmay hn (by kernel_rfl)
                intro K hK
                have e5 : ys 5 = _ := hd 5 (by decide)
                simp only [putL, Act.put, List.setIfInBounds_toArray, List.set_cons_zero, List.set_cons_succ, Nat.zero_add, Nat.reduceAdd, e5] at hK ⊢
                rw [if_pos (by rfl)]
                obtain ⟨x0, x1, x2, x3⟩ := hS.2.2.2.1.two
                go_simp
                exact hK _ _ (Below.refl _ _) rfl
              · refine @id (StepG _ _ _ _ _ _ _ _ _ _ _) ?_
                intro nst ys wx hn hmay hw hS hd
                intro K hK
                simp only [putL, Act.put, List.setIfInBounds_toArray, List.set_cons_zero, List.set_cons_succ, Nat.zero_add, Nat.reduceAdd] at hK ⊢
                rw [if_pos (by rfl)]
                go_simp
                exact hK _ _ (Below.refl _ _) rfl
              · refine @id (StepG _ _ _ _ _ _ _ _ _ _ _) ?_
                intro nst ys wx hn hmay hw hS hd
                obtain rfl : nst = 0 := may_one hmay hn (by kernel_rfl)
                intro K hK
                have e7 : ys 7 = _ := hd 7 (by decide)
                simp only [putL, Act.put, List.setIfInBounds_toArray, List.set_cons_zero, List.set_cons_succ, Nat.zero_add, Nat.reduceAdd, e7] at hK ⊢
                rw [if_pos (by rfl)]
                obtain ⟨x0, x1, x2, x3⟩ := hS.2.2.2.1.two
                go_simp
                exact hK _ _ (Below.refl _ _) rfl
              · refine @id (StepG _ _ _ _ _ _ _ _ _ _ _) ?_
                intro nst ys wx hn hmay hw hS hd
                intro K hK
                simp only [putL, Act.put, List.setIfInBounds_toArray, List.set_cons_zero, List.set_cons_succ, Nat.zero_add, Nat.reduceAdd] at hK ⊢
                rw [if_pos (by rfl)]
                go_simp
                exact hK _ _ (Below.refl _ _) rfl
              · refine @id (StepG _ _ _ _ _ _ _ _ _ _ _) ?_
                intro nst ys wx hn hmay hw hS hd
                intro K hK
                have e8 : ys 8 = _ := hd 8 (by decide)
                have e9 : ys 9 = _ := hd 9 (by decide)
                simp only [putL, Act.put, List.setIfInBounds_toArray, List.set_cons_zero, List.set_cons_succ, Nat.zero_add, Nat.reduceAdd, e8, e9] at hK ⊢
                rw [if_pos (by rfl)]
                have r1 : (k : Int) < 4 := by omega
                have r0 : (0 : Int) ≤ k := by omega
                have r2 : (k : Int).toNat = k := by omega
                go_simp
                exact hK _ _ (Below.refl _ _) rfl
              · refine @id (StepG _ _ _ _ _ _ _ _ _ _ _) ?_
                intro nst ys wx hn hmay hw hS hd
                intro K hK
                have e10 : ys 10 = _ := hd 10 (by decide)
                simp only [putL, Act.put, List.setIfInBounds_toArray, List.set_cons_zero, List.set_cons_succ, Nat.zero_add, Nat.reduceAdd, e10] at hK ⊢
                rw [if_pos (by rfl)]
                have kx := (hw.cell (p := ⟨bc, oc + k, none⟩) hFbc').trans hu
                go_simp
                exact hK _ _ (Below.refl _ _) rfl
              · refine @id (StepG _ _ _ _ _ _ _ _ _ _ _) ?_
                intro nst ys wx hn hmay hw hS hd
                obtain rfl : nst = 0 := may_one hmay hn (by kernel_rfl)
                intro K hK
                have e11 : ys 11 = _ := hd 11 (by decide)
                simp only [putL, Act.put, List.setIfInBounds_toArray, List.set_cons_zero, List.set_cons_succ, Nat.zero_add, Nat.reduceAdd, e11] at hK ⊢
                rw [if_pos (by rfl)]
                go_simp
                refine (clone_B i.2[k] _ _ _ (okB.grow HK.out.2.2.2.2.2.2.2.1 (hS.1 rfl)) HCL.out).mono ?_
                rintro e w' ⟨v', rfl, hv', hb'⟩
                have hso := (hS.1 rfl).size
                exact hK _ _ hb' (okB.lt ((hv'.bytes (G' := fun k => wx.heap.size ≤ k)).toRd ok8 (F := fun k => wx.heap.size ≤ k) (fun k hk => hk) (fun k hk => hk)) |> fun h => okB.mono h fun k hk => ⟨Nat.le_trans hso hk.1, hk.2⟩)
              · refine @id (StepG _ _ _ _ _ _ _ _ _ _ _) ?_
                intro nst ys wx hn hmay hw hS hd
                intro K hK
                have e4 : ys 4 = _ := hd 4 (by decide)
                have e6 : ys 6 = _ := hd 6 (by decide)
                simp only [putL, Act.put, List.setIfInBounds_toArray, List.set_cons_zero, List.set_cons_succ, Nat.zero_add, Nat.reduceAdd, e4, e6] at hK ⊢
                rw [if_pos (by rfl)]
                have r1 : (s : Int) < 3 := by omega
                have r0 : (0 : Int) ≤ s := by omega
                have r2 : (s : Int).toNat = s := by omega
                go_simp
                exact hK _ _ (Below.refl _ _) rfl
              · refine @id (StepS _ _ _ _ _ _ _ _ _ _ _) ?_
                intro ys wx hw hS hd K hK
                have k12 := hd 12 (by decide)
                change (Rg RdB wr.heap.size i.2[k]) wx (ys 12) at k12
                have e13 : ys 13 = _ := hd 13 (by decide)
                simp only [putL, Act.put, List.setIfInBounds_toArray, List.set_cons_zero, List.set_cons_succ, Nat.zero_add, Nat.reduceAdd, e13] at hK ⊢
                rw [if_pos (by rfl)]
                have k12' : RdB wx (fun q => wr.heap.size ≤ q ∧ q < wx.heap.size) (ys 12) i.2[k] := k12
                obtain ⟨A9', c9', hy, _, _⟩ := k12'.shape
                rw [hy] at k12'
                simp only [hy] at hK ⊢
                clear k12 hy
                have hDx := okDISKSr.grow (okDISKSr.lt HK.out.1) (hS.1 rfl)
                obtain ⟨g2, c2, u0, p1, _, _, p4, p5, p6, p7⟩ := disks_put hDx HK.out.2.2.2.2.2.2.2.2 hk4 his k12' (fun q hq => ⟨fun h => by omega, hq.2⟩)
                have hgg : g2 = g1 := by
                  have h1 := ((hS.1 rfl).cell (p := ⟨g, k, none⟩) hgl).trans a1
                  rw [p1] at h1
                  injection h1 with h1
                  injection h1 with h1
                  injection h1 with h1
                  injection h1
                subst hgg
                have hg2 : w.heap.size + 3 ≤ g2 ∧ g2 ≠ BO ∧ ¬ (w3.heap.size ≤ g2 ∧ g2 < wL.heap.size) := by rcases p6.1 with h | h <;> (refine ⟨by omega, by omega, by omega⟩)
                have hbs := (Below.refl w.heap.size wx).setCell (p := ⟨g2, s, none⟩) (by show w.heap.size ≤ g2; omega) (.slice A9' i.2[k].length c9')
                have n1 : DISKSr (wx.setCell ⟨g2, s, none⟩ (.slice A9' i.2[k].length c9')) (fun q => ((w.heap.size + 3 ≤ q ∧ q < B) ∧ q < BO) ∨ (wL.heap.size ≤ q ∧ q < (wx.setCell ⟨g2, s, none⟩ (.slice A9' i.2[k].length c9')).heap.size)) (.slice (some ⟨g, 0, none⟩) 4 cg) (putTo a.disks s i.2 (k + 1)) := by
                  rw [HN.out, setCell_size]
                  have := (hS.1 rfl).size
                  exact okDISKSr.mono p7 fun q hq => by omega
                have n2 := hS.2.2.1.far (b' := g2) (j := s) (v := .slice A9' i.2[k].length c9') (by omega)
                have n3 := hS.2.2.2.1.far (b' := g2) (j := s) (v := .slice A9' i.2[k].length c9') (by omega)
                have n4 := hS.2.2.2.2.1.far (b' := g2) (j := s) (v := .slice A9' i.2[k].length c9') (by omega)
                have n5 := okIs.setc hS.2.2.2.2.2.1 (b := g2) (j := s) (v := .slice A9' i.2[k].length c9') (fun q hq e => hg2.2.2 (e ▸ hq))
                have n6 : wL.heap.size ≤ (wx.setCell ⟨g2, s, none⟩ (.slice A9' i.2[k].length c9')).heap.size := by rw [setCell_size]; exact hS.2.2.2.2.2.2.1
                have n7 := okBB.setc hS.2.2.2.2.2.2.2 (b := g2) (j := s) (v := .slice A9' i.2[k].length c9') (fun q hq => by omega)
                go_simp
                exact hK undef _ hbs ⟨fun e => absurd e (by decide), fun _ => n1, n2, n3, n4, n5, n6, n7⟩ trivial ⟨fun _ h => h, fun _ h => h, fun _ h => h, fun _ h => h, fun _ h => h, fun _ h => h, fun _ h => h, fun _ h => h, fun _ h => h, fun _ h => h, fun _ h => h, fun _ h => h, fun _ _ => trivial, fun _ h => h, fun _ h => h, trivial⟩
            · intro ys w' hl' hS' hV
              clear hV
              simp only [putL, Act.put, List.setIfInBounds_toArray, List.set_cons_zero, List.set_cons_succ, Nat.zero_add, Nat.reduceAdd]
              have hbe := HK.out.2.2.2.2.2.1.trans (hl'.mono (Nat.le_refl _))
              have HNN := Lib.hid (And.intro (hS'.2.1 rfl) (And.intro hS'.2.2 hbe))
              clear hS' hl' hbe
              go_wp2
              go_roundw
              case rel => exact ⟨k + 1, by omega, by go_num, HNN.out.1, HNN.out.2.1.1, HNN.out.2.1.2.2.2.1, HNN.out.2.1.2.1, HNN.out.2.1.2.2.1, HNN.out.2.2, HNN.out.2.1.2.2.2.2.1, HNN.out.2.1.2.2.2.2.2⟩
              case measure => simp [intOf]; omega
          · obtain rfl : 4 = k := by omega
            have d5 : decide (5 < n) = true := by simp; omega
            have e1 := hXo.set_ 1 (.slice none 0 0)
            have e2 := okDISKSr.setc hD (b := BO) (j := 1) (v := .slice none 0 0) (fun q hq => by omega)
            have e3 := hZ.far (b' := BO) (j := 1) (v := .slice none 0 0) (by omega)
            have e4 := hB.setCell (p := ⟨BO, 1, none⟩) (by show w.heap.size ≤ BO; omega) (.slice none 0 0)
            obtain ⟨x0, x1, x2, x3⟩ := hXo.two
            obtain ⟨wz, hwz⟩ : ∃ x, wr.setCell ⟨BO, 1, none⟩ (.slice none 0 0) = x := ⟨_, rfl⟩
            rw [hwz] at e1 e2 e3 e4
            change BoxAt wz BO 37 [.slice (some ⟨g, 0, none⟩) 4 cg, .slice none 0 0] at e1
            have hrd : RdA wz _ (.agg #[.slice (some ⟨g, 0, none⟩) 4 cg, .slice none 0 0]) ⟨putTo a.disks s i.2 4, []⟩ := ⟨_, _, rfl, disksr_rd e2, RdIs.nil_ _ _ _ _ (by decide)⟩
            have HRET := Lib.hid (ret_box (F' := fun k => w.heap.size ≤ k) e3 e4 (by omega) hrd (fun k hk => by omega) fun k hk => by omega)
            have HP := Lib.hid (show writeA a i n = ⟨putTo a.disks s i.2 4, []⟩ by rw [write_eq, HI.out.2.1, if_pos (show 5 < n by omega), show cellsP n = 4 by unfold cellsP; rw [if_neg (by omega)]; omega])
            obtain ⟨y0, y1, y2, y3⟩ := e1.two
            obtain ⟨z0, z1, z2, z3⟩ := e3.two
            clear hD hXo hIi hXi hZ hB hCc e1 e2 e3 e4 hrd hk hlt
            go_wp2_with fail
            exact bodyPost_ret (v := .agg #[.slice (some ⟨g, 0, none⟩) 4 cg, .slice none 0 0]) (by simp [results, Tryd.results38, go_sem, *]) rfl ⟨_, rfl, by rw [HP.out]; exact HRET.out.1, HRET.out.2⟩
      · have d4 : decide (4 < n - 1) = false := by simpa using h5
        obtain ⟨m, hm⟩ : ∃ m : Nat, n - 1 = m := ⟨(n - 1).toNat, by omega⟩
        have hm4 : m ≤ 4 := by omega
        go_wp2_with fail
        rename World => wL
        have HDr := Lib.hid (disks_r HD'.out)
        have hsL := HB'.out.size
        have hBOL := HX'.out.lt
        go_loopw [25] (fun v wr => ∃ k : Nat, k ≤ m ∧ v = .int .i64 k ∧ DISKSr wr (fun q => ((w.heap.size + 3 ≤ q ∧ q < B) ∧ q < BO) ∨ (wL.heap.size ≤ q ∧ q < wr.heap.size)) (.slice (some ⟨g, 0, none⟩) 4 cg) (putTo a.disks s i.2 k) ∧ BoxAt wr BO 37 [.slice (some ⟨g, 0, none⟩) 4 cg, .slice A9 1 c9] ∧ RdIs wr (fun q => w3.heap.size ≤ q ∧ q < wL.heap.size) (.slice A9 1 c9) [((s : Int), i.2)] ∧ BoxAt wr (w.heap.size + 1) 78 [.int .i64 (s : Int), .slice (some ⟨bc, oc, none⟩) 4 cc] ∧ BoxAt wr (w.heap.size + 1 + 1) 37 [.slice none 0 0, .slice none 0 0] ∧ Below w.heap.size w wr ∧ wL.heap.size ≤ wr.heap.size ∧ RdBB wr (fun k => F2 k ∧ k < w.heap.size) (.slice (some ⟨bc, oc, none⟩) 4 cc) i.2) (fun v _ => m - (intOf v).toNat)
        case atStart => exact ⟨0, Nat.zero_le _, rfl, okDISKSr.mono HDr.out fun q hq => .inl hq, HX'.out, okIs.mono HI'.out fun q hq => by omega, HXi'.out, HZ'.out, HB'.out, Nat.le_refl _, HC'.out⟩
        case round =>
          obtain ⟨k, hk, rfl, hD, hXo, hIi, hXi, hZ, hB, hsr, hCc⟩ := hrel
          by_cases hlt : k < m
          · have hbk : decide ((k : Int) < (m : Int)) = true := by simp; omega
            have hk4 : k < 4 := by omega
            have hkl : k < i.2.length := by rw [HI.out.2.2.1]; exact hk4
            have hshk : Shape (putTo a.disks s i.2 k) := putTo_shape HS.out.1 s HI.out.2.2.2 k
            obtain ⟨u, hu, hRu⟩ := RdL_q hCc (k := k) (x := i.2[k]) (List.getElem?_eq_getElem hkl)
            obtain ⟨Ax, cx, rfl, _, _⟩ := hRu.shape
            obtain ⟨r, hr, hrl, _, _⟩ := hshk.cell hk4 (s := 0) (by decide)
            have hdl : k < (putTo a.disks s i.2 k).length := by rw [hshk.1]; exact hk4
            obtain ⟨u1, f1, a1, _, a3, _, _⟩ := hD.inner okROWr hdl
            obtain ⟨g1, c1, rfl, _, _, hc1, hc1m⟩ := a3.form (by rw [(List.getElem?_eq_some_iff.1 hr).2, hrl]; decide)
            rw [(List.getElem?_eq_some_iff.1 hr).2, hrl] at a1 hc1
            unfold maxLen at hc1m
            have HN := Lib.hid (show putTo a.disks s i.2 (k + 1) = setA (putTo a.disks s i.2 k) k s i.2[k] by rw [putTo_next]; simp [List.getD, List.getElem?_eq_getElem hkl])
            have HK := Lib.hid (And.intro hD (And.intro hXo (And.intro hXi (And.intro hZ (And.intro hIi (And.intro hB (And.intro hCc (And.intro hRu hshk))))))))
            have hgl := (hD.blk g rfl).2
            have hFbc' := hFbc.2
            have hcl8 : i.2[k].length ≤ 1000 := Nat.le_trans (HI.out.2.2.2 _ (List.getElem_mem hkl)) (by decide)
            have HCL := Lib.hid hcl8
            clear hD hXo hXi hZ hIi hB hCc hRu a3 hr hrl hcl8 hshk
            go_wp2_with fail
            have hbase : w.heap.size ≤ wr.heap.size := by omega
            refine region_three (w.heap.size) [Ck (.pointer (some ⟨BO, 0, none⟩)), Ck (.slice (some ⟨g, 0, none⟩) 4 cg), Ck (.int .i64 k), Ck (.pointer (some ⟨g, k, none⟩)), Ck (.slice (some ⟨g1, 0, none⟩) 3 c1), Ck (.pointer (some ⟨w.heap.size + 1, 0, none⟩)), Ck (.int .i64 s), Ck (.pointer (some ⟨w.heap.size + 1, 1, none⟩)), Ck (.slice (some ⟨bc, oc, none⟩) 4 cc), Ck (.int .i64 k), Ck (.pointer (some ⟨bc, oc + k, none⟩)), Ck (.slice Ax i.2[k].length cx), Ek 0 (Rg RdB wr.heap.size i.2[k]), Ck (.pointer (some ⟨g1, s, none⟩)), Tk] (fun m wx => (m = 0 → Below wr.heap.size wr wx) ∧ (m = 1 → DISKSr wx (fun q => ((w.heap.size + 3 ≤ q ∧ q < B) ∧ q < BO) ∨ (wL.heap.size ≤ q ∧ q < wx.heap.size)) (.slice (some ⟨g, 0, none⟩) 4 cg) (putTo a.disks s i.2 (k + 1))) ∧ BoxAt wx BO 37 [.slice (some ⟨g, 0, none⟩) 4 cg, .slice A9 1 c9] ∧ BoxAt wx (w.heap.size + 1) 78 [.int .i64 (s : Int), .slice (some ⟨bc, oc, none⟩) 4 cc] ∧ BoxAt wx (w.heap.size + 1 + 1) 37 [.slice none 0 0, .slice none 0 0] ∧ RdIs wx (fun q => w3.heap.size ≤ q ∧ q < wL.heap.size) (.slice A9 1 c9) [((s : Int), i.2)] ∧ wL.heap.size ≤ wx.heap.size ∧ RdBB wx (fun k => F2 k ∧ k < w.heap.size) (.slice (some ⟨bc, oc, none⟩) 4 cc) i.2) [14] (by kernel_rfl) (by kernel_rfl) (by kernel_rfl) (by kernel_rfl) (by kernel_rfl) ?_ ?_ (fun m w w' hb h => ⟨fun e => (h.1 e).trans (hb.mono (h.1 e).size), fun e => okDISKSr.mono (okDISKSr.grow (okDISKSr.lt (h.2.1 e)) hb) fun q hq => by have := hb.size; rcases hq.1 with h | h; exact .inl h; exact .inr ⟨h.1, by omega⟩, h.2.2.1.grow hb, h.2.2.2.1.grow hb, h.2.2.2.2.1.grow hb, okIs.grow h.2.2.2.2.2.1 hb, Nat.le_trans h.2.2.2.2.2.2.1 hb.size, okBB.grow h.2.2.2.2.2.2.2 hb⟩) (⟨fun _ => Below.refl _ _, fun h => absurd h (by decide), HK.out.2.1, HK.out.2.2.1, HK.out.2.2.2.1, HK.out.2.2.2.2.1, hsr, HK.out.2.2.2.2.2.2.1⟩) ?_ ?_
            · first | exact Nat.le_refl _ | assumption | omega
            · repeat (first | exact trivial | refine ⟨mCk _, ?_⟩ | refine ⟨mTk, ?_⟩ | refine ⟨mEk _ (by first | exact mC _ | exact mT | exact mR okB _ | exact mR okBB _ | exact mR okBBB _ | exact mRn okB _ _ | exact mRn okBB _ _ | exact mOw _ _ _ _ | exact mRm okB _ _ _ | exact mRa _ _ | exact mRg okROW _ _ | exact mRg okROWS _ _ | exact mRf okDISKS _ _ | exact mRg okCELL _ _ | exact mRg okBB _ _ | exact mRg okB _ _ | exact mRg okIs _ _ | exact mRi _ _ | exact mOx _ _), ?_⟩ | refine ⟨mFk _ (by first | exact mC _ | exact mT | exact mR okB _ | exact mR okBB _ | exact mR okBBB _ | exact mRn okB _ _ | exact mRn okBB _ _ | exact mOw _ _ _ _ | exact mRm okB _ _ _ | exact mRa _ _ | exact mRg okROW _ _ | exact mRg okROWS _ _ | exact mRf okDISKS _ _ | exact mRg okCELL _ _ | exact mRg okBB _ _ | exact mRg okB _ _ | exact mRg okIs _ _ | exact mRi _ _ | exact mOx _ _), ?_⟩ | refine ⟨fun _ => (by first | exact mC _ | exact mT | exact mR okB _ | exact mR okBB _ | exact mR okBBB _ | exact mRn okB _ _ | exact mRn okBB _ _ | exact mOw _ _ _ _ | exact mRm okB _ _ _ | exact mRa _ _ | exact mRg okROW _ _ | exact mRg okROWS _ _ | exact mRf okDISKS _ _ | exact mRg okCELL _ _ | exact mRg okBB _ _ | exact mRg okB _ _ | exact mRg okIs _ _ | exact mRi _ _ | exact mOx _ _), ?_⟩)
            · simp only [StepsL3]
              refine ⟨?_, ?_, ?_, ?_, ?_, ?_, ?_, ?_, ?_, ?_, ?_, ?_, ?_, ?_, ?_, trivial⟩
              · refine @id (StepG _ _ _ _ _ _ _ _ _ _ _) ?_
                intro nst ys wx hn hmay hw hS hd
                intro K hK
                simp only [putL, Act.put, List.setIfInBounds_toArray, List.set_cons_zero, List.set_cons_succ, Nat.zero_add, Nat.reduceAdd] at hK ⊢
                rw [if_pos (by rfl)]
                go_simp
                exact hK _ _ (Below.refl _ _) rfl
              · refine @id (StepG _ _ _ _ _ _ _ _ _ _ _) ?_
                intro nst ys wx hn hmay hw hS hd
                obtain rfl : nst = 0 := may_one hmay hn (by kernel_rfl)
                intro K hK
                have e0 : ys 0 = _ := hd 0 (by decide)
                simp only [putL, Act.put, List.setIfInBounds_toArray, List.set_cons_zero, List.set_cons_succ, Nat.zero_add, Nat.reduceAdd, e0] at hK ⊢
                rw [if_pos (by rfl)]
                obtain ⟨x0, x1, x2, x3⟩ := hS.2.2.1.two
                go_simp
                exact hK _ _ (Below.refl _ _) rfl
              · refine @id (StepG _ _ _ _ _ _ _ _ _ _ _) ?_
                intro nst ys wx hn hmay hw hS hd
                intro K hK
                simp only [putL, Act.put, List.setIfInBounds_toArray, List.set_cons_zero, List.set_cons_succ, Nat.zero_add, Nat.reduceAdd] at hK ⊢
                rw [if_pos (by rfl)]
                go_simp
                exact hK _ _ (Below.refl _ _) rfl
              · refine @id (StepG _ _ _ _ _ _ _ _ _ _ _) ?_
                intro nst ys wx hn hmay hw hS hd
                intro K hK
                have e1 : ys 1 = _ := hd 1 (by decide)
                have e2 : ys 2 = _ := hd 2 (by decide)
                simp only [putL, Act.put, List.setIfInBounds_toArray, List.set_cons_zero, List.set_cons_succ, Nat.zero_add, Nat.reduceAdd, e1, e2] at hK ⊢
                rw [if_pos (by rfl)]
                have r1 : (k : Int) < 4 := by omega
                have r0 : (0 : Int) ≤ k := by omega
                have r2 : (k : Int).toNat = k := by omega
                go_simp
                exact hK _ _ (Below.refl _ _) rfl
              · refine @id (StepG _ _ _ _ _ _ _ _ _ _ _) ?_
                intro nst ys wx hn hmay hw hS hd
                obtain rfl : nst = 0 := may_one hmay hn (by kernel_rfl)
                intro K hK
                have e3 : ys 3 = _ := hd 3 (by decide)
                simp only [putL, Act.put, List.setIfInBounds_toArray, List.set_cons_zero, List.set_cons_succ, Nat.zero_add, Nat.reduceAdd, e3] at hK ⊢
                rw [if_pos (by rfl)]
                have kx := ((hS.1 rfl).cell (p := ⟨g, k, none⟩) hgl).trans a1
                go_simp
                exact hK _ _ (Below.refl _ _) rfl
              · refine @id (StepG _ _ _ _ _ _ _ _ _ _ _) ?_
                intro nst ys wx hn hmay hw hS hd
                intro K hK
                simp only [putL, Act.put, List.setIfInBounds_toArray, List.set_cons_zero, List.set_cons_succ, Nat.zero_add, Nat.reduceAdd] at hK ⊢
                rw [if_pos (by rfl)]
                go_simp
                exact hK _ _ (Below.refl _ _) rfl
              · refine @id (StepG _ _ _ _ _ _ _ _ _ _ _) ?_
                intro nst ys wx hn hmay hw hS hd
                obtain rfl : nst = 0 := may_one hmay hn (by kernel_rfl)
                intro K hK
                have e5 : ys 5 = _ := hd 5 (by decide)
                simp only [putL, Act.put, List.setIfInBounds_toArray, List.set_cons_zero, List.set_cons_succ, Nat.zero_add, Nat.reduceAdd, e5] at hK ⊢
                rw [if_pos (by rfl)]
                obtain ⟨x0, x1, x2, x3⟩ := hS.2.2.2.1.two
                go_simp
                exact hK _ _ (Below.refl _ _) rfl
              · refine @id (StepG _ _ _ _ _ _ _ _ _ _ _) ?_
                intro nst ys wx hn hmay hw hS hd
                intro K hK
                simp only [putL, Act.put, List.setIfInBounds_toArray, List.set_cons_zero, List.set_cons_succ, Nat.zero_add, Nat.reduceAdd] at hK ⊢
                rw [if_pos (by rfl)]
                go_simp
                exact hK _ _ (Below.refl _ _) rfl
              · refine @id (StepG _ _ _ _ _ _ _ _ _ _ _) ?_
                intro nst ys wx hn hmay hw hS hd
                obtain rfl : nst = 0 := may_one hmay hn (by kernel_rfl)
                intro K hK
                have e7 : ys 7 = _ := hd 7 (by decide)
                simp only [putL, Act.put, List.setIfInBounds_toArray, List.set_cons_zero, List.set_cons_succ, Nat.zero_add, Nat.reduceAdd, e7] at hK ⊢
                rw [if_pos (by rfl)]
                obtain ⟨x0, x1, x2, x3⟩ := hS.2.2.2.1.two
                go_simp
                exact hK _ _ (Below.refl _ _) rfl
              · refine @id (StepG _ _ _ _ _ _ _ _ _ _ _) ?_
                intro nst ys wx hn hmay hw hS hd
                intro K hK
                simp only [putL, Act.put, List.setIfInBounds_toArray, List.set_cons_zero, List.set_cons_succ, Nat.zero_add, Nat.reduceAdd] at hK ⊢
                rw [if_pos (by rfl)]
                go_simp
                exact hK _ _ (Below.refl _ _) rfl
              · refine @id (StepG _ _ _ _ _ _ _ _ _ _ _) ?_
                intro nst ys wx hn hmay hw hS hd
                intro K hK
                have e8 : ys 8 = _ := hd 8 (by decide)
                have e9 : ys 9 = _ := hd 9 (by decide)
                simp only [putL, Act.put, List.setIfInBounds_toArray, List.set_cons_zero, List.set_cons_succ, Nat.zero_add, Nat.reduceAdd, e8, e9] at hK ⊢
                rw [if_pos (by rfl)]
                have r1 : (k : Int) < 4 := by omega
                have r0 : (0 : Int) ≤ k := by omega
                have r2 : (k : Int).toNat = k := by omega
                go_simp
                exact hK _ _ (Below.refl _ _) rfl
              · refine @id (StepG _ _ _ _ _ _ _ _ _ _ _) ?_
                intro nst ys wx hn hmay hw hS hd
                intro K hK
                have e10 : ys 10 = _ := hd 10 (by decide)
                simp only [putL, Act.put, List.setIfInBounds_toArray, List.set_cons_zero, List.set_cons_succ, Nat.zero_add, Nat.reduceAdd, e10] at hK ⊢
                rw [if_pos (by rfl)]
                have kx := (hw.cell (p := ⟨bc, oc + k, none⟩) hFbc').trans hu
                go_simp
                exact hK _ _ (Below.refl _ _) rfl
              · refine @id (StepG _ _ _ _ _ _ _ _ _ _ _) ?_
                intro nst ys wx hn hmay hw hS hd
                obtain rfl : nst = 0 := may_one hmay hn (by kernel_rfl)
                intro K hK
                have e11 : ys 11 = _ := hd 11 (by decide)
                simp only [putL, Act.put, List.setIfInBounds_toArray, List.set_cons_zero, List.set_cons_succ, Nat.zero_add, Nat.reduceAdd, e11] at hK ⊢
                rw [if_pos (by rfl)]
                go_simp
                refine (clone_B i.2[k] _ _ _ (okB.grow HK.out.2.2.2.2.2.2.2.1 (hS.1 rfl)) HCL.out).mono ?_
                rintro e w' ⟨v', rfl, hv', hb'⟩
                have hso := (hS.1 rfl).size
                exact hK _ _ hb' (okB.lt ((hv'.bytes (G' := fun k => wx.heap.size ≤ k)).toRd ok8 (F := fun k => wx.heap.size ≤ k) (fun k hk => hk) (fun k hk => hk)) |> fun h => okB.mono h fun k hk => ⟨Nat.le_trans hso hk.1, hk.2⟩)
              · refine @id (StepG _ _ _ _ _ _ _ _ _ _ _) ?_
                intro nst ys wx hn hmay hw hS hd
                intro K hK
                have e4 : ys 4 = _ := hd 4 (by decide)
                have e6 : ys 6 = _ := hd 6 (by decide)
                simp only [putL, Act.put, List.setIfInBounds_toArray, List.set_cons_zero, List.set_cons_succ, Nat.zero_add, Nat.reduceAdd, e4, e6] at hK ⊢
                rw [if_pos (by rfl)]
                have r1 : (s : Int) < 3 := by omega
                have r0 : (0 : Int) ≤ s := by omega
                have r2 : (s : Int).toNat = s := by omega
                go_simp
                exact hK _ _ (Below.refl _ _) rfl
              · refine @id (StepS _ _ _ _ _ _ _ _ _ _ _) ?_
                intro ys wx hw hS hd K hK
                have k12 := hd 12 (by decide)
                change (Rg RdB wr.heap.size i.2[k]) wx (ys 12) at k12
                have e13 : ys 13 = _ := hd 13 (by decide)
                simp only [putL, Act.put, List.setIfInBounds_toArray, List.set_cons_zero, List.set_cons_succ, Nat.zero_add, Nat.reduceAdd, e13] at hK ⊢
                rw [if_pos (by rfl)]
                have k12' : RdB wx (fun q => wr.heap.size ≤ q ∧ q < wx.heap.size) (ys 12) i.2[k] := k12
                obtain ⟨A9', c9', hy, _, _⟩ := k12'.shape
                rw [hy] at k12'
                simp only [hy] at hK ⊢
                clear k12 hy
                have hDx := okDISKSr.grow (okDISKSr.lt HK.out.1) (hS.1 rfl)
                obtain ⟨g2, c2, u0, p1, _, _, p4, p5, p6, p7⟩ := disks_put hDx HK.out.2.2.2.2.2.2.2.2 hk4 his k12' (fun q hq => ⟨fun h => by omega, hq.2⟩)
                have hgg : g2 = g1 := by
                  have h1 := ((hS.1 rfl).cell (p := ⟨g, k, none⟩) hgl).trans a1
                  rw [p1] at h1
                  injection h1 with h1
                  injection h1 with h1
                  injection h1 with h1
                  injection h1
                subst hgg
                have hg2 : w.heap.size + 3 ≤ g2 ∧ g2 ≠ BO ∧ ¬ (w3.heap.size ≤ g2 ∧ g2 < wL.heap.size) := by rcases p6.1 with h | h <;> (refine ⟨by omega, by omega, by omega⟩)
                have hbs := (Below.refl w.heap.size wx).setCell (p := ⟨g2, s, none⟩) (by show w.heap.size ≤ g2; omega) (.slice A9' i.2[k].length c9')
                have n1 : DISKSr (wx.setCell ⟨g2, s, none⟩ (.slice A9' i.2[k].length c9')) (fun q => ((w.heap.size + 3 ≤ q ∧ q < B) ∧ q < BO) ∨ (wL.heap.size ≤ q ∧ q < (wx.setCell ⟨g2, s, none⟩ (.slice A9' i.2[k].length c9')).heap.size)) (.slice (some ⟨g, 0, none⟩) 4 cg) (putTo a.disks s i.2 (k + 1)) := by
                  rw [HN.out, setCell_size]
                  have := (hS.1 rfl).size
                  exact okDISKSr.mono p7 fun q hq => by omega
                have n2 := hS.2.2.1.far (b' := g2) (j := s) (v := .slice A9' i.2[k].length c9') (by omega)
                have n3 := hS.2.2.2.1.far (b' := g2) (j := s) (v := .slice A9' i.2[k].length c9') (by omega)
                have n4 := hS.2.2.2.2.1.far (b' := g2) (j := s) (v := .slice A9' i.2[k].length c9') (by omega)
                have n5 := okIs.setc hS.2.2.2.2.2.1 (b := g2) (j := s) (v := .slice A9' i.2[k].length c9') (fun q hq e => hg2.2.2 (e ▸ hq))
                have n6 : wL.heap.size ≤ (wx.setCell ⟨g2, s, none⟩ (.slice A9' i.2[k].length c9')).heap.size := by rw [setCell_size]; exact hS.2.2.2.2.2.2.1
                have n7 := okBB.setc hS.2.2.2.2.2.2.2 (b := g2) (j := s) (v := .slice A9' i.2[k].length c9') (fun q hq => by omega)
                go_simp
                exact hK undef _ hbs ⟨fun e => absurd e (by decide), fun _ => n1, n2, n3, n4, n5, n6, n7⟩ trivial ⟨fun _ h => h, fun _ h => h, fun _ h => h, fun _ h => h, fun _ h => h, fun _ h => h, fun _ h => h, fun _ h => h, fun _ h => h, fun _ h => h, fun _ h => h, fun _ h => h, fun _ _ => trivial, fun _ h => h, fun _ h => h, trivial⟩
            · intro ys w' hl' hS' hV
              clear hV
              simp only [putL, Act.put, List.setIfInBounds_toArray, List.set_cons_zero, List.set_cons_succ, Nat.zero_add, Nat.reduceAdd]
              have hbe := HK.out.2.2.2.2.2.1.trans (hl'.mono (Nat.le_refl _))
              have HNN := Lib.hid (And.intro (hS'.2.1 rfl) (And.intro hS'.2.2 hbe))
              clear hS' hl' hbe
              go_wp2
              go_roundw
              case rel => exact ⟨k + 1, by omega, by go_num, HNN.out.1, HNN.out.2.1.1, HNN.out.2.1.2.2.2.1, HNN.out.2.1.2.1, HNN.out.2.1.2.2.1, HNN.out.2.2, HNN.out.2.1.2.2.2.2.1, HNN.out.2.1.2.2.2.2.2⟩
              case measure => simp [intOf]; omega
          · obtain rfl : m = k := by omega
            have d5 : decide (5 < n) = false := by simp; omega
            have hrd : RdA wr (fun q => w.heap.size + 3 ≤ q ∧ q ≠ BO) (.agg #[.slice (some ⟨g, 0, none⟩) 4 cg, .slice A9 1 c9]) ⟨putTo a.disks s i.2 m, [((s : Int), i.2)]⟩ := ⟨_, _, rfl, disksr_rd (okDISKSr.mono hD fun q hq => by omega), okIs.mono hIi fun q hq => by omega⟩
            have HRET := Lib.hid (ret_box (F' := fun k => w.heap.size ≤ k) hZ hB (by omega) hrd (fun k hk => by omega) fun k hk => by omega)
            have HP := Lib.hid (show writeA a i n = ⟨putTo a.disks s i.2 m, [((s : Int), i.2)]⟩ by rw [write_eq, HI.out.2.1, if_neg (show ¬ 5 < n by omega), if_pos (show 0 < n by omega), show cellsP n = m by unfold cellsP; rw [if_neg (by omega)]; omega]; congr 1; rw [← HI.out.1])
            obtain ⟨y0, y1, y2, y3⟩ := hXo.two
            obtain ⟨z0, z1, z2, z3⟩ := hZ.two
            clear hD hXo hIi hXi hZ hB hCc hrd hk hlt
            go_wp2_with fail
            exact bodyPost_ret (v := .agg #[.slice (some ⟨g, 0, none⟩) 4 cg, .slice A9 1 c9]) (by simp [results, Tryd.results38, go_sem, *]) rfl ⟨_, rfl, by rw [HP.out]; exact HRET.out.1, HRET.out.2⟩
  · have d0 : decide (0 < n) = false := by simpa using hn
    have HX' := Lib.hid HXo.out
    have HI' := Lib.hid HIs.out
    have HXi' := Lib.hid HXi.out
    have HD' := Lib.hid HDk.out
    have HZ' := Lib.hid HZ.out
    have HB' := Lib.hid HBel.out
    have HC' := Lib.hid HCc.out
    clear HXo HDk HIs HXi HZ HBel HCc
    by_cases hmin : n = -9223372036854775808
    · have hw : wrap64 (n - 1) = 9223372036854775807 := by rw [hmin]; unfold wrap64; omega
      have HM := Lib.hid hmin
      clear hmin
      go_wp2_with fail
      clear hw3 hBO hw
      rename World => wL
      have HDr := Lib.hid (disks_r HD'.out)
      have hsL := HB'.out.size
      have hBOL := HX'.out.lt
      go_loopw [25] (fun v wr => ∃ k : Nat, k ≤ 4 ∧ v = .int .i64 k ∧ DISKSr wr (fun q => ((w.heap.size + 3 ≤ q ∧ q < B) ∧ q < BO) ∨ (wL.heap.size ≤ q ∧ q < wr.heap.size)) (.slice (some ⟨g, 0, none⟩) 4 cg) (putTo a.disks s i.2 k) ∧ BoxAt wr BO 37 [.slice (some ⟨g, 0, none⟩) 4 cg, .slice Av a.ints.length cv] ∧ RdIs wr (fun q => (w.heap.size + 3 ≤ q ∧ B ≤ q) ∧ q < BO) (.slice Av a.ints.length cv) a.ints ∧ BoxAt wr (w.heap.size + 1) 78 [.int .i64 (s : Int), .slice (some ⟨bc, oc, none⟩) 4 cc] ∧ BoxAt wr (w.heap.size + 1 + 1) 37 [.slice none 0 0, .slice none 0 0] ∧ Below w.heap.size w wr ∧ wL.heap.size ≤ wr.heap.size ∧ RdBB wr (fun k => F2 k ∧ k < w.heap.size) (.slice (some ⟨bc, oc, none⟩) 4 cc) i.2) (fun v _ => 4 - (intOf v).toNat)
      case atStart => exact ⟨0, Nat.zero_le _, rfl, okDISKSr.mono HDr.out fun q hq => .inl hq, HX'.out, okIs.mono HI'.out fun q hq => by omega, HXi'.out, HZ'.out, HB'.out, Nat.le_refl _, HC'.out⟩
      case round =>
        obtain ⟨k, hk, rfl, hD, hXo, hIi, hXi, hZ, hB, hsr, hCc⟩ := hrel
        by_cases hlt : k < 4
        · have hbk : decide ((k : Int) < (4 : Int)) = true := by simp; omega
          have hk4 : k < 4 := by omega
          have hkl : k < i.2.length := by rw [HI.out.2.2.1]; exact hk4
          have hshk : Shape (putTo a.disks s i.2 k) := putTo_shape HS.out.1 s HI.out.2.2.2 k
          obtain ⟨u, hu, hRu⟩ := RdL_q hCc (k := k) (x := i.2[k]) (List.getElem?_eq_getElem hkl)
          obtain ⟨Ax, cx, rfl, _, _⟩ := hRu.shape
          obtain ⟨r, hr, hrl, _, _⟩ := hshk.cell hk4 (s := 0) (by decide)
          have hdl : k < (putTo a.disks s i.2 k).length := by rw [hshk.1]; exact hk4
          obtain ⟨u1, f1, a1, _, a3, _, _⟩ := hD.inner okROWr hdl
          obtain ⟨g1, c1, rfl, _, _, hc1, hc1m⟩ := a3.form (by rw [(List.getElem?_eq_some_iff.1 hr).2, hrl]; decide)
          rw [(List.getElem?_eq_some_iff.1 hr).2, hrl] at a1 hc1
          unfold maxLen at hc1m
          have HN := Lib.hid (show putTo a.disks s i.2 (k + 1) = setA (putTo a.disks s i.2 k) k s i.2[k] by rw [putTo_next]; simp [List.getD, List.getElem?_eq_getElem hkl])
          have HK := Lib.hid (And.intro hD (And.intro hXo (And.intro hXi (And.intro hZ (And.intro hIi (And.intro hB (And.intro hCc (And.intro hRu hshk))))))))
          have hgl := (hD.blk g rfl).2
          have hFbc' := hFbc.2
          have hcl8 : i.2[k].length ≤ 1000 := Nat.le_trans (HI.out.2.2.2 _ (List.getElem_mem hkl)) (by decide)
          have HCL := Lib.hid hcl8
          clear hD hXo hXi hZ hIi hB hCc hRu a3 hr hrl hcl8 hshk
          go_wp2_with fail
          have hbase : w.heap.size ≤ wr.heap.size := by omega
          refine region_three (w.heap.size) [Ck (.pointer (some ⟨BO, 0, none⟩)), Ck (.slice (some ⟨g, 0, none⟩) 4 cg), Ck (.int .i64 k), Ck (.pointer (some ⟨g, k, none⟩)), Ck (.slice (some ⟨g1, 0, none⟩) 3 c1), Ck (.pointer (some ⟨w.heap.size + 1, 0, none⟩)), Ck (.int .i64 s), Ck (.pointer (some ⟨w.heap.size + 1, 1, none⟩)), Ck (.slice (some ⟨bc, oc, none⟩) 4 cc), Ck (.int .i64 k), Ck (.pointer (some ⟨bc, oc + k, none⟩)), Ck (.slice Ax i.2[k].length cx), Ek 0 (Rg RdB wr.heap.size i.2[k]), Ck (.pointer (some ⟨g1, s, none⟩)), Tk] (fun m wx => (m = 0 → Below wr.heap.size wr wx) ∧ (m = 1 → DISKSr wx (fun q => ((w.heap.size + 3 ≤ q ∧ q < B) ∧ q < BO) ∨ (wL.heap.size ≤ q ∧ q < wx.heap.size)) (.slice (some ⟨g, 0, none⟩) 4 cg) (putTo a.disks s i.2 (k + 1))) ∧ BoxAt wx BO 37 [.slice (some ⟨g, 0, none⟩) 4 cg, .slice Av a.ints.length cv] ∧ BoxAt wx (w.heap.size + 1) 78 [.int .i64 (s : Int), .slice (some ⟨bc, oc, none⟩) 4 cc] ∧ BoxAt wx (w.heap.size + 1 + 1) 37 [.slice none 0 0, .slice none 0 0] ∧ RdIs wx (fun q => (w.heap.size + 3 ≤ q ∧ B ≤ q) ∧ q < BO) (.slice Av a.ints.length cv) a.ints ∧ wL.heap.size ≤ wx.heap.size ∧ RdBB wx (fun k => F2 k ∧ k < w.heap.size) (.slice (some ⟨bc, oc, none⟩) 4 cc) i.2) [14] (by kernel_rfl) (by kernel_rfl) (by kernel_rfl) (by kernel_rfl) (by kernel_rfl) ?_ ?_ (fun m w w' hb h => ⟨fun e => (h.1 e).trans (hb.mono (h.1 e).size), fun e => okDISKSr.mono (okDISKSr.grow (okDISKSr.lt (h.2.1 e)) hb) fun q hq => by have := hb.size; rcases hq.1 with h | h; exact .inl h; exact .inr ⟨h.1, by omega⟩, h.2.2.1.grow hb, h.2.2.2.1.grow hb, h.2.2.2.2.1.grow hb, okIs.grow h.2.2.2.2.2.1 hb, Nat.le_trans h.2.2.2.2.2.2.1 hb.size, okBB.grow h.2.2.2.2.2.2.2 hb⟩) (⟨fun _ => Below.refl _ _, fun h => absurd h (by decide), HK.out.2.1, HK.out.2.2.1, HK.out.2.2.2.1, HK.out.2.2.2.2.1, hsr, HK.out.2.2.2.2.2.2.1⟩) ?_ ?_
          · first | exact Nat.le_refl _ | assumption | omega
          · repeat (first | exact trivial | refine ⟨mCk _, ?_⟩ | refine ⟨mTk, ?_⟩ | refine ⟨mEk _ (by first | exact mC _ | exact mT | exact mR okB _ | exact mR okBB _ | exact mR okBBB _ | exact mRn okB _ _ | exact mRn okBB _ _ | exact mOw _ _ _ _ | exact mRm okB _ _ _ | exact mRa _ _ | exact mRg okROW _ _ | exact mRg okROWS _ _ | exact mRf okDISKS _ _ | exact mRg okCELL _ _ | exact mRg okBB _ _ | exact mRg okB _ _ | exact mRg okIs _ _ | exact mRi _ _ | exact mOx _ _), ?_⟩ | refine ⟨mFk _ (by first | exact mC _ | exact mT | exact mR okB _ | exact mR okBB _ | exact mR okBBB _ | exact mRn okB _ _ | exact mRn okBB _ _ | exact mOw _ _ _ _ | exact mRm okB _ _ _ | exact mRa _ _ | exact mRg okROW _ _ | exact mRg okROWS _ _ | exact mRf okDISKS _ _ | exact mRg okCELL _ _ | exact mRg okBB _ _ | exact mRg okB _ _ | exact mRg okIs _ _ | exact mRi _ _ | exact mOx _ _), ?_⟩ | refine ⟨fun _ => (by first | exact mC _ | exact mT | exact mR okB _ | exact mR okBB _ | exact mR okBBB _ | exact mRn okB _ _ | exact mRn okBB _ _ | exact mOw _ _ _ _ | exact mRm okB _ _ _ | exact mRa _ _ | exact mRg okROW _ _ | exact mRg okROWS _ _ | exact mRf okDISKS _ _ | exact mRg okCELL _ _ | exact mRg okBB _ _ | exact mRg okB _ _ | exact mRg okIs _ _ | exact mRi _ _ | exact mOx _ _), ?_⟩)
          · simp only [StepsL3]
            refine ⟨?_, ?_, ?_, ?_, ?_, ?_, ?_, ?_, ?_, ?_, ?_, ?_, ?_, ?_, ?_, trivial⟩
            · refine @id (StepG _ _ _ _ _ _ _ _ _ _ _) ?_
              intro nst ys wx hn hmay hw hS hd
              intro K hK
              simp only [putL, Act.put, List.setIfInBounds_toArray, List.set_cons_zero, List.set_cons_succ, Nat.zero_add, Nat.reduceAdd] at hK ⊢
              rw [if_pos (by rfl)]
              go_simp
              exact hK _ _ (Below.refl _ _) rfl
            · refine @id (StepG _ _ _ _ _ _ _ _ _ _ _) ?_
              intro nst ys wx hn hmay hw hS hd
              obtain rfl : nst = 0 := may_one hmay hn (by kernel_rfl)
              intro K hK
              have e0 : ys 0 = _ := hd 0 (by decide)
              simp only [putL, Act.put, List.setIfInBounds_toArray, List.set_cons_zero, List.set_cons_succ, Nat.zero_add, Nat.reduceAdd, e0] at hK ⊢
              rw [if_pos (by rfl)]
              obtain ⟨x0, x1, x2, x3⟩ := hS.2.2.1.two
              go_simp
              exact hK _ _ (Below.refl _ _) rfl
            · refine @id (StepG _ _ _ _ _ _ _ _ _ _ _) ?_
              intro nst ys wx hn hmay hw hS hd
              intro K hK
              simp only [putL, Act.put, List.setIfInBounds_toArray, List.set_cons_zero, List.set_cons_succ, Nat.zero_add, Nat.reduceAdd] at hK ⊢
              rw [if_pos (by rfl)]
              go_simp
              exact hK _ _ (Below.refl _ _) rfl
            · refine @id (StepG _ _ _ _ _ _ _ _ _ _ _) ?_
              intro nst ys wx hn hmay hw hS hd
              intro K hK
              have e1 : ys 1 = _ := hd 1 (by decide)
              have e2 : ys 2 = _ := hd 2 (by decide)
              simp only [putL, Act.put, List.setIfInBounds_toArray, List.set_cons_zero, List.set_cons_succ, Nat.zero_add, Nat.reduceAdd, e1, e2] at hK ⊢
              rw [if_pos (by rfl)]
              have r1 : (k : Int) < 4 := by omega
              have r0 : (0 : Int) ≤ k := by omega
              have r2 : (k : Int).toNat = k := by omega
              go_simp
              exact hK _ _ (Below.refl _ _) rfl
            · refine @id (StepG _ _ _ _ _ _ _ _ _ _ _) ?_
              intro nst ys wx hn hmay hw hS hd
              obtain rfl : nst = 0 := may_one hmay hn (by kernel_rfl)
              intro K hK
              have e3 : ys 3 = _ := hd 3 (by decide)
              simp only [putL, Act.put, List.setIfInBounds_toArray, List.set_cons_zero, List.set_cons_succ, Nat.zero_add, Nat.reduceAdd, e3] at hK ⊢
              rw [if_pos (by rfl)]
              have kx := ((hS.1 rfl).cell (p := ⟨g, k, none⟩) hgl).trans a1
              go_simp
              exact hK _ _ (Below.refl _ _) rfl
            · refine @id (StepG _ _ _ _ _ _ _ _ _ _ _) ?_
              intro nst ys wx hn hmay hw hS hd
              intro K hK
              simp only [putL, Act.put, List.setIfInBounds_toArray, List.set_cons_zero, List.set_cons_succ, Nat.zero_add, Nat.reduceAdd] at hK ⊢
              rw [if_pos (by rfl)]
              go_simp
              exact hK _ _ (Below.refl _ _) rfl
            · refine @id (StepG _ _ _ _ _ _ _ _ _ _ _) ?_
              intro nst ys wx hn hmay hw hS hd
              obtain rfl : nst = 0 := may_one hmay hn (by kernel_rfl)
              intro K hK
              have e5 : ys 5 = _ := hd 5 (by decide)
              simp only [putL, Act.put, List.setIfInBounds_toArray, List.set_cons_zero, List.set_cons_succ, Nat.zero_add, Nat.reduceAdd, e5] at hK ⊢
              rw [if_pos (by rfl)]
              obtain ⟨x0, x1, x2, x3⟩ := hS.2.2.2.1.two
              go_simp
              exact hK _ _ (Below.refl _ _) rfl
            · refine @id (StepG _ _ _ _ _ _ _ _ _ _ _) ?_
              intro nst ys wx hn hmay hw hS hd
              intro K hK
              simp only [putL, Act.put, List.setIfInBounds_toArray, List.set_cons_zero, List.set_cons_succ, Nat.zero_add, Nat.reduceAdd] at hK ⊢
              rw [if_pos (by rfl)]
              go_simp
              exact hK _ _ (Below.refl _ _) rfl
            · refine @id (StepG _ _ _ _ _ _ _ _ _ _ _) ?_
              intro nst ys wx hn hmay hw hS hd
              obtain rfl : nst = 0 := may_one hmay hn (by kernel_rfl)
              intro K hK
              have e7 : ys 7 = _ := hd 7 (by decide)
              simp only [putL, Act.put, List.setIfInBounds_toArray, List.set_cons_zero, List.set_cons_succ, Nat.zero_add, Nat.reduceAdd, e7] at hK ⊢
              rw [if_pos (by rfl)]
              obtain ⟨x0, x1, x2, x3⟩ := hS.2.2.2.1.two
              go_simp
              exact hK _ _ (Below.refl _ _) rfl
            · refine @id (StepG _ _ _ _ _ _ _ _ _ _ _) ?_
              intro nst ys wx hn hmay hw hS hd
              intro K hK
              simp only [putL, Act.put, List.setIfInBounds_toArray, List.set_cons_zero, List.set_cons_succ, Nat.zero_add, Nat.reduceAdd] at hK ⊢
              rw [if_pos (by rfl)]
              go_simp
              exact hK _ _ (Below.refl _ _) rfl
            · refine @id (StepG _ _ _ _ _ _ _ _ _ _ _) ?_
              intro nst ys wx hn hmay hw hS hd
              intro K hK
              have e8 : ys 8 = _ := hd 8 (by decide)
              have e9 : ys 9 = _ := hd 9 (by decide)
              simp only [putL, Act.put, List.setIfInBounds_toArray, List.set_cons_zero, List.set_cons_succ, Nat.zero_add, Nat.reduceAdd, e8, e9] at hK ⊢
              rw [if_pos (by rfl)]
              have r1 : (k : Int) < 4 := by omega
              have r0 : (0 : Int) ≤ k := by omega
              have r2 : (k : Int).toNat = k := by omega
              go_simp
              exact hK _ _ (Below.refl _ _) rfl
            · refine @id (StepG _ _ _ _ _ _ _ _ _ _ _) ?_
              intro nst ys wx hn hmay hw hS hd
              intro K hK
              have e10 : ys 10 = _ := hd 10 (by decide)
              simp only [putL, Act.put, List.setIfInBounds_toArray, List.set_cons_zero, List.set_cons_succ, Nat.zero_add, Nat.reduceAdd, e10] at hK ⊢
              rw [if_pos (by rfl)]
              have kx := (hw.cell (p := ⟨bc, oc + k, none⟩) hFbc').trans hu
              go_simp
              exact hK _ _ (Below.refl _ _) rfl
            · refine @id (StepG _ _ _ _ _ _ _ _ _ _ _) ?_
              intro nst ys wx hn hmay hw hS hd
              obtain rfl : nst = 0 := may_one hmay hn (by kernel_rfl)
              intro K hK
              have e11 : ys 11 = _ := hd 11 (by decide)
              simp only [putL, Act.put, List.setIfInBounds_toArray, List.set_cons_zero, List.set_cons_succ, Nat.zero_add, Nat.reduceAdd, e11] at hK ⊢
              rw [if_pos (by rfl)]
              go_simp
              refine (clone_B i.2[k] _ _ _ (okB.grow HK.out.2.2.2.2.2.2.2.1 (hS.1 rfl)) HCL.out).mono ?_
              rintro e w' ⟨v', rfl, hv', hb'⟩
              have hso := (hS.1 rfl).size
              exact hK _ _ hb' (okB.lt ((hv'.bytes (G' := fun k => wx.heap.size ≤ k)).toRd ok8 (F := fun k => wx.heap.size ≤ k) (fun k hk => hk) (fun k hk => hk)) |> fun h => okB.mono h fun k hk => ⟨Nat.le_trans hso hk.1, hk.2⟩)
            · refine @id (StepG _ _ _ _ _ _ _ _ _ _ _) ?_
              intro nst ys wx hn hmay hw hS hd
              intro K hK
              have e4 : ys 4 = _ := hd 4 (by decide)
              have e6 : ys 6 = _ := hd 6 (by decide)
              simp only [putL, Act.put, List.setIfInBounds_toArray, List.set_cons_zero, List.set_cons_succ, Nat.zero_add, Nat.reduceAdd, e4, e6] at hK ⊢
              rw [if_pos (by rfl)]
              have r1 : (s : Int) < 3 := by omega
              have r0 : (0 : Int) ≤ s := by omega
              have r2 : (s : Int).toNat = s := by omega
              go_simp
              exact hK _ _ (Below.refl _ _) rfl
            · refine @id (StepS _ _ _ _ _ _ _ _ _ _ _) ?_
              intro ys wx hw hS hd K hK
              have k12 := hd 12 (by decide)
              change (Rg RdB wr.heap.size i.2[k]) wx (ys 12) at k12
              have e13 : ys 13 = _ := hd 13 (by decide)
              simp only [putL, Act.put, List.setIfInBounds_toArray, List.set_cons_zero, List.set_cons_succ, Nat.zero_add, Nat.reduceAdd, e13] at hK ⊢
              rw [if_pos (by rfl)]
              have k12' : RdB wx (fun q => wr.heap.size ≤ q ∧ q < wx.heap.size) (ys 12) i.2[k] := k12
              obtain ⟨A9', c9', hy, _, _⟩ := k12'.shape
              rw [hy] at k12'
              simp only [hy] at hK ⊢
              clear k12 hy
              have hDx := okDISKSr.grow (okDISKSr.lt HK.out.1) (hS.1 rfl)
              obtain ⟨g2, c2, u0, p1, _, _, p4, p5, p6, p7⟩ := disks_put hDx HK.out.2.2.2.2.2.2.2.2 hk4 his k12' (fun q hq => ⟨fun h => by omega, hq.2⟩)
              have hgg : g2 = g1 := by
                have h1 := ((hS.1 rfl).cell (p := ⟨g, k, none⟩) hgl).trans a1
                rw [p1] at h1
                injection h1 with h1
                injection h1 with h1
                injection h1 with h1
                injection h1
              subst hgg
              have hg2 : w.heap.size + 3 ≤ g2 ∧ g2 ≠ BO ∧ ¬ ((w.heap.size + 3 ≤ g2 ∧ B ≤ g2) ∧ g2 < BO) := by rcases p6.1 with h | h <;> (refine ⟨by omega, by omega, by omega⟩)
              have hbs := (Below.refl w.heap.size wx).setCell (p := ⟨g2, s, none⟩) (by show w.heap.size ≤ g2; omega) (.slice A9' i.2[k].length c9')
              have n1 : DISKSr (wx.setCell ⟨g2, s, none⟩ (.slice A9' i.2[k].length c9')) (fun q => ((w.heap.size + 3 ≤ q ∧ q < B) ∧ q < BO) ∨ (wL.heap.size ≤ q ∧ q < (wx.setCell ⟨g2, s, none⟩ (.slice A9' i.2[k].length c9')).heap.size)) (.slice (some ⟨g, 0, none⟩) 4 cg) (putTo a.disks s i.2 (k + 1)) := by
                rw [HN.out, setCell_size]
                have := (hS.1 rfl).size
                exact okDISKSr.mono p7 fun q hq => by omega
              have n2 := hS.2.2.1.far (b' := g2) (j := s) (v := .slice A9' i.2[k].length c9') (by omega)
              have n3 := hS.2.2.2.1.far (b' := g2) (j := s) (v := .slice A9' i.2[k].length c9') (by omega)
              have n4 := hS.2.2.2.2.1.far (b' := g2) (j := s) (v := .slice A9' i.2[k].length c9') (by omega)
              have n5 := okIs.setc hS.2.2.2.2.2.1 (b := g2) (j := s) (v := .slice A9' i.2[k].length c9') (fun q hq e => hg2.2.2 (e ▸ hq))
              have n6 : wL.heap.size ≤ (wx.setCell ⟨g2, s, none⟩ (.slice A9' i.2[k].length c9')).heap.size := by rw [setCell_size]; exact hS.2.2.2.2.2.2.1
              have n7 := okBB.setc hS.2.2.2.2.2.2.2 (b := g2) (j := s) (v := .slice A9' i.2[k].length c9') (fun q hq => by omega)
              go_simp
              exact hK undef _ hbs ⟨fun e => absurd e (by decide), fun _ => n1, n2, n3, n4, n5, n6, n7⟩ trivial ⟨fun _ h => h, fun _ h => h, fun _ h => h, fun _ h => h, fun _ h => h, fun _ h => h, fun _ h => h, fun _ h => h, fun _ h => h, fun _ h => h, fun _ h => h, fun _ h => h, fun _ _ => trivial, fun _ h => h, fun _ h => h, trivial⟩
          · intro ys w' hl' hS' hV
            clear hV
            simp only [putL, Act.put, List.setIfInBounds_toArray, List.set_cons_zero, List.set_cons_succ, Nat.zero_add, Nat.reduceAdd]
            have hbe := HK.out.2.2.2.2.2.1.trans (hl'.mono (Nat.le_refl _))
            have HNN := Lib.hid (And.intro (hS'.2.1 rfl) (And.intro hS'.2.2 hbe))
            clear hS' hl' hbe
            go_wp2
            go_roundw
            case rel => exact ⟨k + 1, by omega, by go_num, HNN.out.1, HNN.out.2.1.1, HNN.out.2.1.2.2.2.1, HNN.out.2.1.2.1, HNN.out.2.1.2.2.1, HNN.out.2.2, HNN.out.2.1.2.2.2.2.1, HNN.out.2.1.2.2.2.2.2⟩
            case measure => simp [intOf]; omega
        · obtain rfl : 4 = k := by omega
          have d5 : decide (5 < n) = false := by simp; omega
          have hrd : RdA wr (fun q => w.heap.size + 3 ≤ q ∧ q ≠ BO) (.agg #[.slice (some ⟨g, 0, none⟩) 4 cg, .slice Av a.ints.length cv]) ⟨putTo a.disks s i.2 4, a.ints⟩ := ⟨_, _, rfl, disksr_rd (okDISKSr.mono hD fun q hq => by omega), okIs.mono hIi fun q hq => by omega⟩
          have HRET := Lib.hid (ret_box (F' := fun k => w.heap.size ≤ k) hZ hB (by omega) hrd (fun k hk => by omega) fun k hk => by omega)
          have HP := Lib.hid (show writeA a i n = ⟨putTo a.disks s i.2 4, a.ints⟩ by have hmin := HM.out; rw [write_eq, HI.out.2.1, if_neg (show ¬ 5 < n by omega), if_neg (show ¬ 0 < n by omega), show cellsP n = 4 by unfold cellsP; rw [if_pos hmin]])
          obtain ⟨y0, y1, y2, y3⟩ := hXo.two
          obtain ⟨z0, z1, z2, z3⟩ := hZ.two
          clear hD hXo hIi hXi hZ hB hCc hrd hk hlt
          go_wp2_with fail
          exact bodyPost_ret (v := .agg #[.slice (some ⟨g, 0, none⟩) 4 cg, .slice Av a.ints.length cv]) (by simp [results, Tryd.results38, go_sem, *]) rfl ⟨_, rfl, by rw [HP.out]; exact HRET.out.1, HRET.out.2⟩
    · have hneg : decide (n - 1 < 0) = true := by simp; omega
      go_wp2_with fail
      clear hw3 hBO
      rename World => wL
      have HDr := Lib.hid (disks_r HD'.out)
      have hsL := HB'.out.size
      have hBOL := HX'.out.lt
      go_loopw [25] (fun v wr => ∃ k : Nat, k ≤ 0 ∧ v = .int .i64 k ∧ DISKSr wr (fun q => ((w.heap.size + 3 ≤ q ∧ q < B) ∧ q < BO) ∨ (wL.heap.size ≤ q ∧ q < wr.heap.size)) (.slice (some ⟨g, 0, none⟩) 4 cg) (putTo a.disks s i.2 k) ∧ BoxAt wr BO 37 [.slice (some ⟨g, 0, none⟩) 4 cg, .slice Av a.ints.length cv] ∧ RdIs wr (fun q => (w.heap.size + 3 ≤ q ∧ B ≤ q) ∧ q < BO) (.slice Av a.ints.length cv) a.ints ∧ BoxAt wr (w.heap.size + 1) 78 [.int .i64 (s : Int), .slice (some ⟨bc, oc, none⟩) 4 cc] ∧ BoxAt wr (w.heap.size + 1 + 1) 37 [.slice none 0 0, .slice none 0 0] ∧ Below w.heap.size w wr ∧ wL.heap.size ≤ wr.heap.size ∧ RdBB wr (fun k => F2 k ∧ k < w.heap.size) (.slice (some ⟨bc, oc, none⟩) 4 cc) i.2) (fun v _ => 0 - (intOf v).toNat)
      case atStart => exact ⟨0, Nat.zero_le _, rfl, okDISKSr.mono HDr.out fun q hq => .inl hq, HX'.out, okIs.mono HI'.out fun q hq => by omega, HXi'.out, HZ'.out, HB'.out, Nat.le_refl _, HC'.out⟩
      case round =>
        obtain ⟨k, hk, rfl, hD, hXo, hIi, hXi, hZ, hB, hsr, hCc⟩ := hrel
        by_cases hlt : k < 0
        · exact absurd hlt (Nat.not_lt_zero k)
        · obtain rfl : 0 = k := by omega
          have d5 : decide (5 < n) = false := by simp; omega
          have hrd : RdA wr (fun q => w.heap.size + 3 ≤ q ∧ q ≠ BO) (.agg #[.slice (some ⟨g, 0, none⟩) 4 cg, .slice Av a.ints.length cv]) ⟨putTo a.disks s i.2 0, a.ints⟩ := ⟨_, _, rfl, disksr_rd (okDISKSr.mono hD fun q hq => by omega), okIs.mono hIi fun q hq => by omega⟩
          have HRET := Lib.hid (ret_box (F' := fun k => w.heap.size ≤ k) hZ hB (by omega) hrd (fun k hk => by omega) fun k hk => by omega)
          have HP := Lib.hid (show writeA a i n = ⟨putTo a.disks s i.2 0, a.ints⟩ by rw [write_eq, HI.out.2.1, if_neg (show ¬ 5 < n by omega), if_neg (show ¬ 0 < n by omega), show cellsP n = 0 by unfold cellsP; rw [if_neg hmin]; omega])
          obtain ⟨y0, y1, y2, y3⟩ := hXo.two
          obtain ⟨z0, z1, z2, z3⟩ := hZ.two
          clear hD hXo hIi hXi hZ hB hCc hrd hk hlt
          go_wp2_with fail
          exact bodyPost_ret (v := .agg #[.slice (some ⟨g, 0, none⟩) 4 cg, .slice Av a.ints.length cv]) (by simp [results, Tryd.results38, go_sem, *]) rfl ⟨_, rfl, by rw [HP.out]; exact HRET.out.1, HRET.out.2⟩
end Go.Proofs.YtdcmbdghnkgghaaDoor

/- Merged: C9d C9e C9f C9g Open Open2 Open3. -/
import Derived.Test.YtdcmbdghnkgghaaDoorZf
import Derived.ProofKit
import Derived.OpenShut
import Derived.SizedLaws
import Derived.ChangeOld
import Derived.Deep.Slices
import Derived.Test.YtdcmbdghnkgghaaDoorZb
import Derived.Test.YtdcmbdghnkgghaaDoorZc
import Derived.Lib.SmallJoins
namespace Go.Proofs.YtdcmbdghnkgghaaDoor
set_option linter.unusedVariables false
open Go Go.RowKit M
/-- A list of steps, seven cells each. -/
def RdSts (w : World) (F : Fp) (v : Value) (l : List Step) : Prop := ∃ A c, v = .slice A l.length c ∧ l.length ≤ c ∧ c ≤ maxLen ∧ ∀ (j : Nat) (s : Step), l[j]? = some s → ∃ b off, A = some ⟨b, off, none⟩ ∧ F b ∧ b < w.heap.size ∧ w.cell? ⟨b, off + j * 7, none⟩ = some (.int .i64 s.kind) ∧ w.cell? ⟨b, off + j * 7 + 1, none⟩ = some (.int .i64 s.n) ∧ w.cell? ⟨b, off + j * 7 + 2, none⟩ = some (.int .i64 s.m) ∧
  w.cell? ⟨b, off + j * 7 + 3, none⟩ = some (.int .i64 s.deed.kind) ∧ w.cell? ⟨b, off + j * 7 + 4, none⟩ = some (.int .i64 s.deed.n) ∧ w.cell? ⟨b, off + j * 7 + 5, none⟩ = some (.int .i64 s.deed.m) ∧ s.n ≤ 9223372036854775807 ∧ ∃ u, w.cell? ⟨b, off + j * 7 + 6, none⟩ = some u ∧ RdB w F u s.deed.data
theorem RdSts.below {w w' : World} {B : Nat} {F : Fp} {v : Value} {l : List Step} (h : RdSts w F v l) (hb : Below B w w') (hF : ∀ k, F k → k < w.heap.size → k < B) : RdSts w' F v l := by
  obtain ⟨A, c, h1, h2, h3, h4⟩ := h
  refine ⟨A, c, h1, h2, h3, fun j s hs => ?_⟩
  obtain ⟨b, off, e0, e1, e2, c0, c1, c2, c3, c4, c5, e3, u, c6, r⟩ := h4 j s hs
  have hB := hF b e1 e2
  exact ⟨b, off, e0, e1, Nat.lt_of_lt_of_le e2 hb.size, (hb.cell hB).trans c0, (hb.cell hB).trans c1, (hb.cell hB).trans c2, (hb.cell hB).trans c3, (hb.cell hB).trans c4, (hb.cell hB).trans c5, e3, u, (hb.cell hB).trans c6, okB.below r hb hF⟩
theorem RdSts.lt {w : World} {F : Fp} {v : Value} {l : List Step} (h : RdSts w F v l) : RdSts w (fun k => F k ∧ k < w.heap.size) v l := by
  obtain ⟨A, c, h1, h2, h3, h4⟩ := h
  refine ⟨A, c, h1, h2, h3, fun j s hs => ?_⟩
  obtain ⟨b, off, e0, e1, e2, c0, c1, c2, c3, c4, c5, e3, u, c6, r⟩ := h4 j s hs
  exact ⟨b, off, e0, ⟨e1, e2⟩, e2, c0, c1, c2, c3, c4, c5, e3, u, c6, okB.lt r⟩
theorem M.RdA.keepF {w w' : World} {F : Fp} {v : Value} {a : Arr} (h : RdA w F v a) (hk : ∀ k, F k → k < w.heap.size → w'.heap[k]? = w.heap[k]?) : RdA w' F v a := by
  obtain ⟨dv, iv, rfl, h1, h2⟩ := h
  exact ⟨dv, iv, rfl, okBBB.keep h1 hk, okIs.keep h2 hk⟩
theorem stepR_good {a : Arr} (hs : Shape a.disks) (hn : a.ints = []) (s : Step) : Shape (stepR a s).1.disks ∧ (stepR a s).1.ints = [] := by
  unfold stepR stepK
  split
  · by_cases he : (planA a.disks s.deed).2 = 0
    · rw [doA_ok he]; exact ⟨writeR_shape hs (intOk_plan hs he) 6, rfl⟩
    · rw [doA_bad he]; exact ⟨hs, hn⟩
  · split
    · split
      · exact ⟨hs, hn⟩
      · rename_i he
        have he' : (planA a.disks s.deed).2 = 0 := by simpa using he
        have hi := intOk_plan hs he'
        rcases mount_half (.inr rfl) hs hn (i := (planA a.disks s.deed).1) hi.2.1 hi.2.2.2 s.n with e | e
        · simp only [e]; exact ⟨hs, hn⟩
        · simp only [e]; exact ⟨putTo_shape hs _ hi.2.2.2 4, rfl⟩
    · split
      · split
        · exact ⟨hs, hn⟩
        · refine ⟨rot_shape hs _ _ _, ?_⟩
          rcases rot_cases a (s.n / 3) (s.n % 3) s.m with e | ⟨_, _, _, _, _, _, _, _, _, e⟩ <;> rw [e] <;> exact hn
      · split
        · refine ⟨gone_shape' hs _, ?_⟩
          rcases gone_cases a s.n with e | ⟨_, _, _, e⟩ <;> rw [e] <;> exact hn
        · split
          · refine ⟨mend_shape hs _, ?_⟩
            unfold mendA
            split
            · exact hn
            · simp only []
              split
              · exact hn
              · exact hn
          · exact ⟨hs, hn⟩
theorem playTo_next {l : List Step} {k : Nat} {s : Step} (h : l[k]? = some s) : playTo l (k + 1) = (stepR (playTo l k) s).1 := by
  have hl := (List.getElem?_eq_some_iff.1 h).1
  have he := (List.getElem?_eq_some_iff.1 h).2
  unfold playTo
  rw [List.take_succ_eq_append_getElem hl, List.foldl_append, he]
  rfl
theorem playTo_good (l : List Step) (k : Nat) : Shape (playTo l k).disks ∧ (playTo l k).ints = [] := by
  induction k with
  | zero => exact ⟨good_new.1.shape, rfl⟩
  | succ k ih =>
    by_cases h : k < l.length
    · rw [playTo_next (List.getElem?_eq_getElem h)]
      exact stepR_good ih.1 ih.2 _
    · have : playTo l (k + 1) = playTo l k := by unfold playTo; rw [List.take_of_length_le (by omega), List.take_of_length_le (by omega)]
      rw [this]; exact ih
theorem playTo_all {l : List Step} {k : Nat} (h : k = l.length ∧ k ≤ 100 ∨ k = 100) : playTo l k = playA l := by
  unfold playA playTo
  rcases h with ⟨h1, h2⟩ | h
  · rw [List.take_of_length_le (by omega), List.take_of_length_le (by omega)]
  · rw [h]
end Go.Proofs.YtdcmbdghnkgghaaDoor

namespace Go.Proofs.YtdcmbdghnkgghaaDoor
set_option linter.unusedVariables false
open Go Go.RowKit M
theorem boxes2 (w : World) (a b : List Value) (T T' : TypeId) : ∃ w1, ((w.alloc (.cells a.toArray T)).alloc (.cells b.toArray T')) = w1 ∧ BoxAt w1 w.heap.size T a ∧ BoxAt w1 (w.heap.size + 1) T' b ∧ Below w.heap.size w w1 ∧ w1.heap.size = w.heap.size + 2 := by
  have h0 := boxAt_new w T a
  have h1 := below_alloc w (.cells a.toArray T)
  have h2 := boxAt_new (w.alloc (.cells a.toArray T)) T' b
  have h3 := below_alloc (w.alloc (.cells a.toArray T)) (.cells b.toArray T')
  rw [alloc_size] at h2
  exact ⟨_, rfl, h0.grow h3, h2, h1.trans (h3.mono h1.size), by rw [alloc_size, alloc_size]⟩
theorem M.BoxAt.seven_ {w : World} {b : Nat} {T : TypeId} {a0 a1 a2 a3 a4 a5 a6 : Value} (h : BoxAt w b T [a0, a1, a2, a3, a4, a5, a6]) : w.cell? ⟨b, 0, none⟩ = some a0 ∧ w.cell? ⟨b, 1, none⟩ = some a1 ∧ w.cell? ⟨b, 2, none⟩ = some a2 ∧ w.cell? ⟨b, 3, none⟩ = some a3 ∧ w.cell? ⟨b, 4, none⟩ = some a4 ∧ w.cell? ⟨b, 5, none⟩ = some a5 ∧ w.cell? ⟨b, 6, none⟩ = some a6 ∧ True :=
  ⟨h.cell 0, h.cell 1, h.cell 2, h.cell 3, h.cell 4, h.cell 5, h.cell 6, trivial⟩
def Kt (r : Int) : Know := fun _ v => ∃ u, v = .tuple #[u, .int .i64 r]
theorem mKt (r : Int) : Mono (Kt r) := fun _ _ _ _ h => h
theorem quos (k d t : Nat) (hk : k < 12) (hd : k / 3 = d) (ht : k % 3 = t) : wrap64 ((k : Int).tdiv 3) = (d : Int) ∧ ((k : Int) / 3) = (d : Int) ∧ ((k : Int).tmod 3) = (t : Int) ∧ IntKind.i64.wrap (d : Int) = (d : Int) ∧ IntKind.i64.wrap (t : Int) = (t : Int) := by
  have h1 : ((k : Int) / 3) = (d : Int) := by omega
  have h2 : ((k : Int) % 3) = (t : Int) := by omega
  refine ⟨?_, h1, ?_, wrap_nat (by omega), wrap_nat (by omega)⟩
  · rw [quo3 (by omega) (by omega), h1]
  · rw [Int.tmod_eq_emod_of_nonneg (by omega), h2]
theorem again_no {a : Arr} {s : Step} (h : s.kind ≠ 3 ∨ s.n < 0 ∨ 11 < s.n) : againA a s = false := by
  unfold againA
  rcases h with h | h | h
  · simp [h]
  · have : ¬ 0 ≤ s.n := by omega
    simp [this]
  · have : ¬ s.n ≤ 11 := by omega
    simp [this]
theorem again_yes {a : Arr} {s : Step} {k : Nat} (h1 : s.kind = 3) (h2 : s.n = k) (h3 : k < 12) : againA a s = !((readC (cellAt a.disks (k / 3) (k % 3)) (k / 3 : Nat) (k % 3 : Nat)).2 == 0) := by
  unfold againA
  rw [h2]
  have e1 : (k : Int) ≤ 11 := by omega
  have e2 : (0 : Int) ≤ (k : Int) := by omega
  simp only [h1, e1, e2, decide_true, beq_self_eq_true, Bool.true_and, Int.toNat_natCast]
  rfl
end Go.Proofs.YtdcmbdghnkgghaaDoor

namespace Go.Proofs.YtdcmbdghnkgghaaDoor
set_option linter.unusedVariables false
open Go Go.RowKit M
theorem gently_nil (n : Nat) (a : Arr) : gently n a [] = a := by unfold gently; split <;> first | rfl | contradiction
theorem gently_stop {n : Nat} {a : Arr} {s : Step} {l : List Step} (h : againA a s = true ∨ 1 < worstA (stepR a s).1.disks) : gently (n + 1) a (s :: l) = a := by
  show (if againA a s || decide (1 < worstA (stepR a s).1.disks) then a else gently n (stepR a s).1 l) = a
  rw [if_pos]
  rcases h with h | h <;> simp [h]
theorem gently_go {n : Nat} {a : Arr} {s : Step} {l : List Step} (h1 : againA a s = false) (h2 : ¬ 1 < worstA (stepR a s).1.disks) : gently (n + 1) a (s :: l) = gently n (stepR a s).1 l := by
  show (if againA a s || decide (1 < worstA (stepR a s).1.disks) then a else gently n (stepR a s).1 l) = _
  rw [if_neg]
  simp [h1, h2]
end Go.Proofs.YtdcmbdghnkgghaaDoor

namespace Go.Proofs.YtdcmbdghnkgghaaDoor
set_option linter.unusedVariables false
open Go Go.RowKit M
theorem rows_eq {A B : List (List Bs)} (hA : A.length = 4) (hB : B.length = 4) (h : ∀ j, j < 4 → A.getD j [] = B.getD j []) : A = B := by
  apply List.ext_getElem (by omega)
  intro i h1 h2
  have := h i (by omega)
  simpa [List.getD, List.getElem?_eq_getElem h1, List.getElem?_eq_getElem h2] using this
end Go.Proofs.YtdcmbdghnkgghaaDoor

namespace Go.Proofs.YtdcmbdghnkgghaaDoor.M
set_option linter.unusedVariables false
open Go Go.RowKit Go.ChangeShapes Go.WideShapes Go.Deep

section
variable {H : Type} {enc : TypeId × Value → H} {P : Program} {w : World} {base : Nat} {spare : Nat → Bool} {held : Bool}

theorem list_of_fn {α : Type} {n : Nat} {p : Nat → α → Prop} (h : ∀ i, i < n → ∃ x, p i x) : ∃ l : List α, l.length = n ∧ ∀ i x, l[i]? = some x → p i x := by
  induction n with
  | zero => exact ⟨[], rfl, fun i x hx => by simp at hx⟩
  | succ n ih =>
    obtain ⟨l, hl, hp⟩ := ih fun i hi => h i (by omega)
    obtain ⟨x, hx⟩ := h n (by omega)
    refine ⟨l ++ [x], by simp [hl], fun i y hy => ?_⟩
    by_cases hi : i < n
    · rw [List.getElem?_append_left (by omega)] at hy
      exact hp i y hy
    · have hi' : i = n := by
        have := (List.getElem?_eq_some_iff.1 hy).1
        simp at this
        omega
      subst hi'
      rw [List.getElem?_append_right (by omega)] at hy
      simp [hl] at hy
      subst hy
      exact hx

/-- How long the datum says that the slice is. -/
def DLen (d : DataW H) (n : Nat) : Prop := (d = .nil ∧ n = 0) ∨ ∃ elems sp, d = .slice elems sp ∧ elems.length = n

theorem open_RdL {α : Type} {R : Rel α} {t e : TypeId} (ht : P.underlying t = some (.slice e)) (hc : P.cellsOf e = 1)
    (hR : ∀ fuel v x, DataW.trod enc P w base spare held fuel e [v] = some x → ∃ y, R w (fun _ => True) v y)
    {fuel : Nat} {v : Value} {x : DataW H × List MemPlace} (h : DataW.trod enc P w base spare held fuel t [v] = some x) :
    ∃ ys, RdL R w (fun _ => True) v ys ∧ DLen x.1 ys.length := by
  rcases open_slice1 ht hc h with ⟨hcs, rfl⟩ | ⟨a, len, cap, m, n, V, D, Pl, hcs, _, hl, hm, hmm, rfl, hi⟩
  · obtain rfl : v = .slice none 0 0 := by simpa using hcs
    exact ⟨[], RdL.nil_ R w _ none 0 (by simp [maxLen]), .inl ⟨rfl, rfl⟩⟩
  · obtain rfl : v = .slice (some a) len cap := by simpa using hcs
    have hlm : len ≤ m := by rw [hmm]; split <;> omega
    obtain ⟨ys, hyl, hy⟩ := list_of_fn (n := len) (p := fun i y => R w (fun _ => True) (V i) y) fun i hi' => by
      obtain ⟨_, ht'⟩ := hi i (by omega)
      exact hR _ _ _ ht'
    refine ⟨ys, ⟨(List.range len).map V, ⟨some a, cap, by simp, by simpa using hl, hm, fun hn => ?_⟩, by simp [hyl], fun j u y hu hyj => ?_⟩, .inr ⟨_, _, rfl, by simp [hyl]⟩⟩
    · simp at hn
      obtain ⟨b, off, spot⟩ := a
      have hc0 := (hi 0 (by omega)).1
      have hspot : spot = none := by simpa [Addr.add] using World.cell?_spot hc0
      subst hspot
      refine ⟨b, off, rfl, trivial, fun j u hu => ?_⟩
      have hj : j < len := by have := (List.getElem?_eq_some_iff.1 hu).1; simpa using this
      have hcj := (hi j (by omega)).1
      have hadd : (⟨b, off, none⟩ : Addr).add j = ⟨b, off + j, none⟩ := by unfold Addr.add; split <;> simp_all
      rw [hadd] at hcj
      simp [hj] at hu
      subst hu
      exact hcj
    · have hj : j < len := by have := (List.getElem?_eq_some_iff.1 hu).1; simpa using this
      simp [hj] at hu
      subst hu
      exact hy j y hyj
theorem open_R8 {e : TypeId} (he : P.underlying e = some (.int .u8)) {fuel : Nat} {v : Value} {x : DataW H × List MemPlace} (h : DataW.trod enc P w base spare held fuel e [v] = some x) : ∃ c, R8 w (fun _ => True) v c := by
  obtain ⟨n, hv, _, hw⟩ := DataW.trod_int he h
  obtain rfl : v = .int .u8 n := by simpa using hv
  have hb := bounds_u8 hw
  refine ⟨UInt8.ofNat n.toNat, ?_⟩
  unfold R8 B8
  rw [UInt8.toNat_ofNat']
  congr 1
  omega
theorem open_RI {e : TypeId} (he : P.underlying e = some (.int .i64)) {fuel : Nat} {v : Value} {x : DataW H × List MemPlace} (h : DataW.trod enc P w base spare held fuel e [v] = some x) : ∃ c, RI w (fun _ => True) v c := by
  obtain ⟨n, hv, _, _⟩ := DataW.trod_int he h
  exact ⟨n, by simpa [RI] using hv⟩
theorem open_B {t e : TypeId} (ht : P.underlying t = some (.slice e)) (he : P.underlying e = some (.int .u8)) (hc : P.cellsOf e = 1) {fuel : Nat} {v : Value} {x : DataW H × List MemPlace} (h : DataW.trod enc P w base spare held fuel t [v] = some x) :
    ∃ b : Bs, RdB w (fun _ => True) v b ∧ DLen x.1 b.length := open_RdL ht hc (fun _ _ _ h => open_R8 he h) h
theorem open_BB {t t' e : TypeId} (ht : P.underlying t = some (.slice t')) (hc' : P.cellsOf t' = 1) (ht' : P.underlying t' = some (.slice e)) (he : P.underlying e = some (.int .u8)) (hc : P.cellsOf e = 1) {fuel : Nat} {v : Value} {x : DataW H × List MemPlace} (h : DataW.trod enc P w base spare held fuel t [v] = some x) :
    ∃ b : List Bs, RdBB w (fun _ => True) v b ∧ DLen x.1 b.length := open_RdL ht hc' (fun _ _ _ h => let ⟨b, hb, _⟩ := open_B ht' he hc h; ⟨b, hb⟩) h
end
end Go.Proofs.YtdcmbdghnkgghaaDoor.M

namespace Go.Proofs.YtdcmbdghnkgghaaDoor
set_option linter.unusedVariables false
open Go Go.RowKit Go.ChangeShapes Go.WideShapes Go.Deep Go.Joins M
section
variable {H : Type} {enc : TypeId × Value → H} {w : World} {base : Nat} {spare : Nat → Bool} {held : Bool}
theorem open_int1 {t : TypeId} (ht : Tryd.prog.underlying t = some (.int .i64)) {fuel : Nat} {v : Value} {x : DataW H × List MemPlace} (h : DataW.trod enc Tryd.prog w base spare held fuel t [v] = some x) : ∃ n : Int, v = .int .i64 n := by
  obtain ⟨n, hv, _, _⟩ := DataW.trod_int ht h
  exact ⟨n, by simpa using hv⟩
set_option maxRecDepth 100000 in
theorem open_deed {r : Reach} {b0 : Nat} {v : Value} {d : DataW H} {p : List MemPlace} (hv : Value.okWide Tryd.prog w r b0 24 v) (h : DataW.Trod enc Tryd.prog w base spare held 24 v d p) : ∃ dd : Deed, RdD w (fun _ => True) v dd := by
  obtain ⟨v0, v1, v2, v3, y0, y1, y2, y3, n, rfl, _, _, h0, h1, h2, h3⟩ := open_agg4 Tryd.underlying24 (by kernel_rfl) (by kernel_rfl) hv h
  obtain ⟨a0, rfl⟩ := open_int1 Tryd.underlying3 h0
  obtain ⟨a1, rfl⟩ := open_int1 Tryd.underlying3 h1
  obtain ⟨a2, rfl⟩ := open_int1 Tryd.underlying3 h2
  obtain ⟨b, hb, _⟩ := M.open_B Tryd.underlying22 Tryd.underlying5 (by kernel_rfl) h3
  exact ⟨⟨a0, a1, a2, b⟩, _, rfl, hb⟩
end
end Go.Proofs.YtdcmbdghnkgghaaDoor

namespace Go.Proofs.YtdcmbdghnkgghaaDoor
set_option linter.unusedVariables false
open Go Go.RowKit Go.ChangeShapes Go.WideShapes Go.Deep Go.Joins M
section
variable {H : Type} {enc : TypeId × Value → H} {w : World} {base : Nat} {spare : Nat → Bool} {held : Bool}
theorem open_int2 {t : TypeId} (ht : Tryd.prog.underlying t = some (.int .i64)) {fuel : Nat} {v : Value} {x : DataW H × List MemPlace} (h : DataW.trod enc Tryd.prog w base spare held fuel t [v] = some x) : ∃ n : Int, v = .int .i64 n ∧ n ≤ 9223372036854775807 := by
  obtain ⟨n, hv, _, hw⟩ := DataW.trod_int ht h
  have hb := bounds_i64 hw
  exact ⟨n, by simpa using hv, by omega⟩
theorem list7 {α : Type} {l : List α} (h : l.length = 7) : ∃ a b c d e f g, l = [a, b, c, d, e, f, g] := by
  match l, h with
  | [a, b, c, d, e, f, g], _ => exact ⟨a, b, c, d, e, f, g, rfl⟩
set_option maxRecDepth 100000 in
theorem open_step {fuel : Nat} {cs : List Value} {x : DataW H × List MemPlace} (h : DataW.trod enc Tryd.prog w base spare held fuel 44 cs = some x) :
    ∃ (s : Step) (u : Value), cs = [.int .i64 s.kind, .int .i64 s.n, .int .i64 s.m, .int .i64 s.deed.kind, .int .i64 s.deed.n, .int .i64 s.deed.m, u] ∧ s.n ≤ 9223372036854775807 ∧ RdB w (fun _ => True) u s.deed.data := by
  obtain ⟨y0, y1, y2, y3, n, _, hl, h0, h1, h2, h3⟩ := trod_struct4 Tryd.underlying44 h
  rw [show Tryd.prog.cellsOf 44 = 7 by kernel_rfl] at hl
  obtain ⟨c0, c1, c2, c3, c4, c5, c6, rfl⟩ := list7 hl
  rw [show Tryd.prog.cellsOf 3 = 1 by kernel_rfl] at h0 h1 h2
  rw [show Tryd.prog.cellsOf 24 = 4 by kernel_rfl] at h3
  simp at h0 h1 h2 h3
  obtain ⟨a0, rfl, _⟩ := open_int2 Tryd.underlying3 h0
  obtain ⟨a1, rfl, hb1⟩ := open_int2 Tryd.underlying3 h1
  obtain ⟨a2, rfl, _⟩ := open_int2 Tryd.underlying3 h2
  obtain ⟨z0, z1, z2, z3, n', _, _, g0, g1, g2, g3⟩ := trod_struct4 Tryd.underlying24 h3
  rw [show Tryd.prog.cellsOf 3 = 1 by kernel_rfl] at g0 g1 g2
  rw [show Tryd.prog.cellsOf 22 = 1 by kernel_rfl] at g3
  simp at g0 g1 g2 g3
  obtain ⟨a3, rfl, _⟩ := open_int2 Tryd.underlying3 g0
  obtain ⟨a4, rfl, _⟩ := open_int2 Tryd.underlying3 g1
  obtain ⟨a5, rfl, _⟩ := open_int2 Tryd.underlying3 g2
  obtain ⟨b, hb, _⟩ := M.open_B Tryd.underlying22 Tryd.underlying5 (by kernel_rfl) g3
  exact ⟨⟨a0, a1, a2, ⟨a3, a4, a5, b⟩⟩, c6, rfl, hb1, hb⟩
end
end Go.Proofs.YtdcmbdghnkgghaaDoor

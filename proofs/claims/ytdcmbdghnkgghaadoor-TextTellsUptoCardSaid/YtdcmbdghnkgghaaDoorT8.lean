/- What append makes of a row of bytes that a conversion of a string has laid: plain laws of the memory. -/
import Derived.Test.YtdcmbdghnkgghaaDoorT7
import Derived.Deep.Upon
namespace Go.Proofs.YtdcmbdghnkgghaaDoor
set_option linter.unusedVariables false
open Go Go.RowKit M
theorem below_setCells {B b : Nat} (hb : B ≤ b) : ∀ (vs : List Value) (o : Nat) (w : World), Below B w (w.setCells b o vs)
  | [], _, w => Below.refl B w
  | v :: r, o, w => ((Below.refl B w).setCell (p := ⟨b, o, none⟩) hb v).trans (below_setCells hb r (o + 1) _)
/-- The call's own row of bytes, whatever of it is frozen behind its end. -/
def OwnX (w : World) (base : Nat) (v : Value) (bs : List UInt8) : Prop :=
  ∃ g cap, v = .slice (some ⟨g, 0, none⟩) bs.length cap ∧ base ≤ g ∧ bs.length ≤ cap ∧ cap ≤ maxLen ∧ (∀ j, j < cap → (w.cell? ⟨g, j, none⟩).isSome = true ∧ w.frozen? ⟨g, j, none⟩ = false) ∧ ∀ j c, bs[j]? = some c → w.cell? ⟨g, j, none⟩ = some (B8 c)
theorem OwnX.rd {w : World} {base : Nat} {v : Value} {bs : List UInt8} (h : OwnX w base v bs) : RdB w (fun k => base ≤ k) v bs := by
  obtain ⟨g, cap, rfl, hb, hl, hm, _, hc⟩ := h
  refine ⟨bs.map B8, ⟨some ⟨g, 0, none⟩, cap, by simp, by simpa using hl, hm, fun _ => ⟨g, 0, rfl, hb, fun j u hu => ?_⟩⟩, by simp, fun j u x hu hx => ?_⟩
  · rw [List.getElem?_map] at hu
    obtain ⟨c, hcj, rfl⟩ := Option.map_eq_some_iff.1 hu
    rw [Nat.zero_add]
    exact hc j c hcj
  · rw [List.getElem?_map, hx] at hu
    injection hu with hu
    exact hu.symm
theorem OwnX.grow {w w' : World} {base : Nat} {v : Value} {bs : List UInt8} (h : OwnX w base v bs) (hb : Below w.heap.size w w') : OwnX w' base v bs := by
  obtain ⟨g, cap, rfl, h1, hl, hm, ht, hc⟩ := h
  refine ⟨g, cap, rfl, h1, hl, hm, fun j hj => ?_, fun j c hj => ?_⟩
  · have h0 := ht j hj
    obtain ⟨u, hu⟩ := Option.isSome_iff_exists.1 h0.1
    have hlt := World.block_lt_of_cell? _ _ hu
    rw [hb.cell (p := ⟨g, j, none⟩) hlt]
    exact ⟨h0.1, (World.frozen?_of_block (hb.block g hlt)).trans h0.2⟩
  · have h0 := hc j c hj
    rw [hb.cell (p := ⟨g, j, none⟩) (World.block_lt_of_cell? _ _ h0)]
    exact h0
/-- []byte(s). -/
theorem run_bytes_own {P : Program} (w : World) (b : Bs) {src dst e : TypeId} (hs : P.underlying src = some .string) (hd : P.underlying dst = some (.slice e)) (he : P.underlying e = some (.int .u8)) (hm : b.length ≤ maxLen) :
    ∃ v w', (convert src dst (.string (strB b))).run P w = .ok v w' ∧ OwnX w' w.heap.size v b ∧ Below w.heap.size w w' := by
  have h := run_bytes_of_string (P := P) w src dst e (strB b) hs hd he
  rw [strB_size] at h
  have hge := grownCap_ge w b.length 0 e
  have hle := grownCap_le_maxLen w b.length 0 e hm
  generalize grownCap w b.length 0 e = cap at *
  have hsz : (bytesRow (strB b) cap).size = cap := by
    unfold bytesRow
    rw [Array.size_append, Array.size_map, Array.size_replicate, strB_size]
    have : (strB b).data.size = b.length := strB_size b
    omega
  refine ⟨_, _, h, ⟨w.heap.size, cap, rfl, Nat.le_refl _, hge, hle, fun j hj => ?_, fun j c hj => ?_⟩, ((Below.refl _ _).drew).alloc (Nat.le_refl _) _⟩
  · have e1 : (w.drew.alloc (.cells (bytesRow (strB b) cap) e ((bytesRow (strB b) cap).size, (bytesRow (strB b) cap).size + 1))).heap[w.heap.size]? = some (.cells (bytesRow (strB b) cap) e ((bytesRow (strB b) cap).size, (bytesRow (strB b) cap).size + 1)) := heap_alloc_new w.drew _
    constructor
    · rw [cell_of_row _ w.heap.size j _ e _ e1]
      simp [hsz, hj]
    · unfold World.frozen?
      rw [e1]
      simp [hsz]
      omega
  · rw [cell_of_row (w.drew.alloc _) w.heap.size j _ e _ (heap_alloc_new w.drew _)]
    obtain ⟨hj1, hj2⟩ := List.getElem?_eq_some_iff.1 hj
    rw [bytesRow_at (strB b) _ j (by simpa [strB] using hj1)]
    simp [strB, B8, hj2]
theorem own_append {P : Program} {w : World} {t ty e : TypeId} {bytes : Nat} (T : SlTy P t e bytes) {base : Nat} {v : Value} {bs : List UInt8} (h : OwnX w base v bs) (a : Addr) (c : Nat) (ys : List UInt8)
    (hy : ∀ j u, (ys.map B8)[j]? = some u → w.cell? (a.add j) = some u) (hb : (bs.length + ys.length) * bytes ≤ 140737488355328) (hbase : base ≤ w.heap.size) :
    ∃ v' w', (Builtin.append_ #[t, t] ty #[v, .slice (some a) ys.length c]).run P w = .ok v' w' ∧ OwnX w' base v' (bs ++ ys) ∧ Below base w w' := by
  obtain ⟨i, z, ht, hi, hz, hsize, hby, hzs, hpos⟩ := T
  subst hby
  have h63 : bs.length + ys.length ≤ maxLen := by
    have : (bs.length + ys.length) * 1 ≤ (bs.length + ys.length) * i.bytes := Nat.mul_le_mul_left _ hpos
    unfold maxLen
    omega
  obtain ⟨g, cap, rfl, h1, hl, hm, hthere, hcell⟩ := h
  have one : ∀ (l : List UInt8), ∀ u ∈ l.map B8, u.oneCell' = true := by
    intro l u hu
    obtain ⟨x, _, rfl⟩ := List.mem_map.1 hu
    rfl
  have hsrc : Src P i.size t (.slice (some a) ys.length c) ys.length (ys.map B8) w := Src.ofSlice w ht a ys.length c (ys.map B8) (by rw [hsize]; simp) hy (one ys)
  have hold : Src P i.size t (.slice (some ⟨g, 0, none⟩) bs.length cap) bs.length (bs.map B8) w := Src.ofSlice w ht ⟨g, 0, none⟩ bs.length cap (bs.map B8) (by rw [hsize]; simp) (fun j u hu => by
    rw [List.getElem?_map] at hu
    obtain ⟨x, hx, rfl⟩ := Option.map_eq_some_iff.1 hu
    have hadd : (⟨g, 0, none⟩ : Addr).add j = ⟨g, j, none⟩ := by unfold Addr.add; split <;> simp_all
    rw [hadd]
    exact hcell j x hx) (one bs)
  by_cases hroom : bs.length + ys.length ≤ cap
  · have hr := run_append_room_src (P := P) w t t ty e i ht hi g 0 bs.length cap (.slice (some a) ys.length c) ys.length (ys.map B8) hsrc hroom (fun j hj => by rw [hsize]; simp at hj; simpa using (hthere (bs.length + j) (by omega)).1) (fun j hj => by rw [hsize]; simp at hj; simpa using (hthere (bs.length + j) (by omega)).2)
    rw [hsize, Nat.mul_one, Nat.zero_add] at hr
    refine ⟨_, _, hr, ⟨g, cap, by rw [List.length_append], h1, by rw [List.length_append]; exact hroom, hm, fun j hj => ?_, fun j x hj => ?_⟩, below_setCells h1 _ _ _⟩
    · rw [World.frozen?_setCells]
      refine ⟨?_, (hthere j hj).2⟩
      by_cases hjl : j < bs.length ∨ bs.length + ys.length ≤ j
      · rw [World.cell?_setCells_out g _ _ w ⟨g, j, none⟩ (fun _ _ => by simpa using hjl)]
        exact (hthere j hj).1
      · have hin := World.cell?_setCells_in g (ys.map B8) bs.length w (fun k hk => by simp at hk; exact (hthere (bs.length + k) (by omega)).1) (j - bs.length) (by simp; omega)
        rw [show bs.length + (j - bs.length) = j by omega] at hin
        rw [hin]
        rfl
    · by_cases hjl : j < bs.length
      · rw [List.getElem?_append_left hjl] at hj
        rw [World.cell?_setCells_out g _ _ w ⟨g, j, none⟩ (fun _ _ => .inl hjl)]
        exact hcell j x hj
      · rw [List.getElem?_append_right (by omega)] at hj
        obtain ⟨hj1, hj2⟩ := List.getElem?_eq_some_iff.1 hj
        have hin := World.cell?_setCells_in g (ys.map B8) bs.length w (fun k hk => by simp at hk; exact (hthere (bs.length + k) (by omega)).1) (j - bs.length) (by simpa using hj1)
        rw [show bs.length + (j - bs.length) = j by omega] at hin
        rw [hin]
        simp [hj2]
  · have hr := run_append_grow_src (P := P) w t t ty e i z ht hi hz (some ⟨g, 0, none⟩) bs.length cap (bs.map B8) hold.cellsD (.slice (some a) ys.length c) ys.length (ys.map B8) hsrc (by omega) (by unfold maxLen at h63; omega) (growslice_fits (by omega) hb)
    have hge := grownCap_ge w (bs.length + ys.length) cap e
    have hle := grownCap_le_maxLen w (bs.length + ys.length) cap e h63
    generalize grownCap w (bs.length + ys.length) cap e = cap' at *
    have e1 := heap_alloc_new w.drew (.cells ((bs.map B8 ++ ys.map B8).toArray ++ Builtin.zeroCells z.cells (cap' - (bs.length + ys.length))) e)
    have hsz : ((bs.map B8 ++ ys.map B8).toArray ++ Builtin.zeroCells z.cells (cap' - (bs.length + ys.length))).size = cap' := by
      rw [Array.size_append, size_zeroCells, hzs, Nat.mul_one]
      simp
      omega
    refine ⟨_, _, hr, ⟨w.heap.size, cap', by rw [List.length_append], hbase, by rw [List.length_append]; exact hge, hle, fun j hj => ?_, fun j x hj => ?_⟩, ((Below.refl _ _).drew).alloc hbase _⟩
    · constructor
      · rw [cell_of_row _ w.heap.size j _ e _ e1]
        simp only [Array.getElem?_eq_getElem (show j < _ from by rw [hsz]; exact hj)]
        rfl
      · unfold World.frozen?
        rw [show (w.drew.alloc (.cells ((bs.map B8 ++ ys.map B8).toArray ++ Builtin.zeroCells z.cells (cap' - (bs.length + ys.length))) e)).heap[w.heap.size]? = _ from e1]
        simp
    · rw [cell_of_row _ w.heap.size j _ e _ e1]
      rw [← List.map_append]
      obtain ⟨hj1, hj2⟩ := List.getElem?_eq_some_iff.1 hj
      rw [Array.getElem?_append_left (by simpa using hj1), List.getElem?_toArray, List.getElem?_map, hj]
      rfl
theorem own_append_rd {P : Program} {w : World} {t ty e : TypeId} {bytes : Nat} (T : SlTy P t e bytes) {base : Nat} {v x : Value} {bs : List UInt8} (h : OwnX w base v bs) {F : Fp} {ys : List UInt8} (hx : RdB w F x ys) (h0 : 0 < ys.length)
    (hb : (bs.length + ys.length) * bytes ≤ 140737488355328) (hbase : base ≤ w.heap.size) :
    ∃ v' w', (Builtin.append_ #[t, t] ty #[v, x]).run P w = .ok v' w' ∧ OwnX w' base v' (bs ++ ys) ∧ Below base w w' := by
  obtain ⟨us, ⟨A, c, rfl, h1, h2, h3⟩, hl, h4⟩ := hx
  obtain ⟨b, off, rfl, _, hc⟩ := h3 (by omega)
  rw [hl]
  refine own_append T h ⟨b, off, none⟩ c ys (fun j u hu => ?_) hb hbase
  rw [List.getElem?_map] at hu
  obtain ⟨y, hy, rfl⟩ := Option.map_eq_some_iff.1 hu
  obtain ⟨hj, _⟩ := List.getElem?_eq_some_iff.1 hy
  have hju : j < us.length := by omega
  have hadd : (⟨b, off, none⟩ : Addr).add j = ⟨b, off + j, none⟩ := by unfold Addr.add; split <;> simp_all
  rw [hadd]
  have hr := h4 j us[j] y (List.getElem?_eq_getElem hju) hy
  have hcj := hc j us[j] (List.getElem?_eq_getElem hju)
  rw [hcj]
  exact congrArg some hr
def Ox (B : Nat) (bs : List UInt8) : Know := fun w v => OwnX w B v bs
theorem mOx (B : Nat) (bs : List UInt8) : Mono (Ox B bs) := fun _ _ _ hb h => OwnX.grow h hb
theorem add_strB (P : Program) (w : World) (a b : List UInt8) (h : a.length + b.length ≤ 1000) : (Op.stringOp .add (strB a) (strB b)).run P w = .ok (.string (strB (a ++ b))) w := by
  have := run_string_add_sum (P := P) w (strB a) (strB b) (by rw [strB_size, strB_size]; omega)
  rw [strB_add] at this
  exact this
theorem dec_all : ∀ n : Fin 9, (Lib.decDigits n.val).length = 1 ∧ Lib.itoa n.val = Lib.decDigits n.val := by decide +kernel
theorem dec_in {n : Nat} (h : n < 9) : (Lib.decDigits n).length = 1 ∧ Lib.itoa (n : Int) = Lib.decDigits n := dec_all ⟨n, h⟩
theorem hexOut_app (a b : List UInt8) : hexOut (a ++ b) = hexOut a ++ hexOut b := by
  induction a with
  | nil => rfl
  | cons c r ih =>
    show hexC _ :: hexC _ :: hexOut (r ++ b) = _
    rw [ih]
    rfl
theorem hexOut_next {l : List UInt8} {k : Nat} (h : k < l.length) : hexOut (l.take (k + 1)) = hexOut (l.take k) ++ [hexC (l[k].toNat / 16), hexC (l[k].toNat % 16)] := by
  rw [List.take_succ_eq_append_getElem h, hexOut_app]
  rfl
end Go.Proofs.YtdcmbdghnkgghaaDoor

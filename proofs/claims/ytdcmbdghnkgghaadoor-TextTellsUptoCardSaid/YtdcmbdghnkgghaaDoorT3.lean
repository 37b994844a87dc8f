/- Chapter 6: what text.Parse computes: the walk. -/
import Derived.Test.YtdcmbdghnkgghaaDoorT2
namespace Go.Proofs.YtdcmbdghnkgghaaDoor
set_option linter.unusedVariables false
open Go Go.RowKit M Go.Maps Go.WideMaps
def set4 (w : World) (b : Nat) (v0 v1 v2 v3 : Value) : World := (((w.setCell ⟨b, 0, none⟩ v0).setCell ⟨b, 1, none⟩ v1).setCell ⟨b, 2, none⟩ v2).setCell ⟨b, 3, none⟩ v3
theorem below_set4 {w : World} {b B : Nat} {v0 v1 v2 v3 : Value} (hb : B ≤ b) : Below B w (set4 w b v0 v1 v2 v3) := ((((Below.refl B w).setCell (p := ⟨b, 0, none⟩) hb v0).setCell (p := ⟨b, 1, none⟩) hb v1).setCell (p := ⟨b, 2, none⟩) hb v2).setCell (p := ⟨b, 3, none⟩) hb v3
theorem RdD.set4 {w : World} {F : Fp} {u : Value} {d : Deed} {b : Nat} {v0 v1 v2 v3 : Value} (h : RdD w F u d) (hF : ∀ k, F k → k ≠ b) : RdD (set4 w b v0 v1 v2 v3) F u d := by
  obtain ⟨dv, rfl, h⟩ := h
  exact ⟨dv, rfl, okB.setc (okB.setc (okB.setc (okB.setc h hF) hF) hF) hF⟩
theorem M.BoxAt.eight {w : World} {b : Nat} {T : TypeId} {a0 a1 a2 a3 : Value} (h : BoxAt w b T [a0, a1, a2, a3]) : (w.cell? ⟨b, 0, none⟩ = some a0 ∧ w.cell? ⟨b, 1, none⟩ = some a1 ∧ w.cell? ⟨b, 2, none⟩ = some a2 ∧ w.cell? ⟨b, 3, none⟩ = some a3) ∧ w.frozen? ⟨b, 0, none⟩ = false ∧ w.frozen? ⟨b, 1, none⟩ = false ∧ w.frozen? ⟨b, 2, none⟩ = false ∧ w.frozen? ⟨b, 3, none⟩ = false :=
  ⟨h.four, h.fr 0, h.fr 1, h.fr 2, h.fr 3⟩
/-- The pieces, laid. -/
theorem pieces_rd (w : World) (ps : List ByteArray) (hn : ps.length ≤ 2000000) : RdL RV (w.alloc (.cells (ps.map Value.string).toArray 9)) (fun _ => True) (.slice (some ⟨w.heap.size, 0, none⟩) ps.length ps.length) (ps.map Value.string) := by
  have h := RdL.new_ (w := w) okRV (us := ps.map Value.string) (xs := ps.map Value.string) (F := fun _ => True) 9 rfl (by rw [List.length_map]; unfold maxLen; omega) trivial fun j u x hu hx => by
    rw [hu] at hx
    injection hx with hx
    subst hx
    rw [List.getElem?_map] at hu
    cases hp : ps[j]? with
    | none => rw [hp] at hu; cases hu
    | some p => rw [hp] at hu; injection hu with hu; subst hu; exact ⟨rfl, rfl⟩
  rw [List.length_map] at h
  exact h
def Ends (w w' : World) (d : Deed) (k n m : Int) (u : Value) : Prop := RdD w' (fun k => w.heap.size ≤ k) (.agg #[.int .i64 k, .int .i64 n, .int .i64 m, u]) d ∧ Below w.heap.size w w' ∧ w'.cell? ⟨w.heap.size, 0, none⟩ = some (.int .i64 k) ∧ w'.cell? ⟨w.heap.size, 1, none⟩ = some (.int .i64 n) ∧ w'.cell? ⟨w.heap.size, 2, none⟩ = some (.int .i64 m) ∧ w'.cell? ⟨w.heap.size, 3, none⟩ = some u
/-- The end where there is no deed. -/
theorem no_end {w w' : World} {cs : List Value} (hz : BoxAt w' w.heap.size 24 cs) (h4 : cs.length = 4) (hb : Below w.heap.size w w') : Ends w ((((w'.setCell ⟨w.heap.size, 0, none⟩ (.int .i64 0)).setCell ⟨w.heap.size, 1, none⟩ (.int .i64 0)).setCell ⟨w.heap.size, 2, none⟩ (.int .i64 0)).setCell ⟨w.heap.size, 3, none⟩ (.slice none 0 0)) zeroD 0 0 0 (.slice none 0 0) := by
  obtain ⟨a, b, c, d, rfl⟩ : ∃ a b c d, cs = [a, b, c, d] := by
    match cs, h4 with
    | [a, b, c, d], _ => exact ⟨a, b, c, d, rfl⟩
  have h := (((hz.set_ 0 (.int .i64 0)).set_ 1 (.int .i64 0)).set_ 2 (.int .i64 0)).set_ 3 (.slice none 0 0)
  obtain ⟨c0, c1, c2, c3⟩ := BoxAt.four h
  exact ⟨⟨_, rfl, RdL.nil_ _ _ _ _ _ (by decide)⟩, hb.trans (below_set4 (w := w') (b := w.heap.size) (v0 := .int .i64 0) (v1 := .int .i64 0) (v2 := .int .i64 0) (v3 := .slice none 0 0) (Nat.le_refl _)), c0, c1, c2, c3⟩
/-- .. and where a box was made behind it. -/
theorem no_end0 {w w' : World} {cs : List Value} (o : Obj) (hz : BoxAt w' w.heap.size 24 cs) (h4 : cs.length = 4) (hb : Below w.heap.size w w') : Ends w (((((w'.setCell ⟨w.heap.size, 0, none⟩ (.int .i64 0)).setCell ⟨w.heap.size, 1, none⟩ (.int .i64 0)).setCell ⟨w.heap.size, 2, none⟩ (.int .i64 0)).setCell ⟨w.heap.size, 3, none⟩ (.slice none 0 0)).alloc o) zeroD 0 0 0 (.slice none 0 0) := by
  obtain ⟨h1, h2, c0, c1, c2, c3⟩ := no_end hz h4 hb
  have hal := below_alloc ((((w'.setCell ⟨w.heap.size, 0, none⟩ (.int .i64 0)).setCell ⟨w.heap.size, 1, none⟩ (.int .i64 0)).setCell ⟨w.heap.size, 2, none⟩ (.int .i64 0)).setCell ⟨w.heap.size, 3, none⟩ (.slice none 0 0)) o
  refine ⟨⟨_, rfl, RdL.nil_ _ _ _ _ _ (by decide)⟩, h2.trans (hal.mono h2.size), ?_, ?_, ?_, ?_⟩
  · exact (hal.cell (World.block_lt_of_cell? _ _ c0)).trans c0
  · exact (hal.cell (World.block_lt_of_cell? _ _ c1)).trans c1
  · exact (hal.cell (World.block_lt_of_cell? _ _ c2)).trans c2
  · exact (hal.cell (World.block_lt_of_cell? _ _ c3)).trans c3
/-- The end where there is a deed. -/
theorem put_end {w w' : World} {cs : List Value} {F : Fp} (d : Deed) (u : Value) (hz : BoxAt w' w.heap.size 24 cs) (h4 : cs.length = 4) (hb : Below w.heap.size w w') (hu : RdB w' F u d.data) (hF : ∀ k, F k → w.heap.size < k) : Ends w ((((w'.setCell ⟨w.heap.size, 0, none⟩ (.int .i64 d.kind)).setCell ⟨w.heap.size, 1, none⟩ (.int .i64 d.n)).setCell ⟨w.heap.size, 2, none⟩ (.int .i64 d.m)).setCell ⟨w.heap.size, 3, none⟩ u) d d.kind d.n d.m u := by
  obtain ⟨a, b, c, e, rfl⟩ : ∃ a b c d, cs = [a, b, c, d] := by
    match cs, h4 with
    | [a, b, c, d], _ => exact ⟨a, b, c, d, rfl⟩
  have h := (((hz.set_ 0 (.int .i64 d.kind)).set_ 1 (.int .i64 d.n)).set_ 2 (.int .i64 d.m)).set_ 3 u
  obtain ⟨c0, c1, c2, c3⟩ := BoxAt.four h
  have hr : RdD w' F (.agg #[.int .i64 d.kind, .int .i64 d.n, .int .i64 d.m, u]) d := ⟨_, rfl, hu⟩
  obtain ⟨dv, e1, h2⟩ := hr.set4 (b := w.heap.size) (v0 := .int .i64 d.kind) (v1 := .int .i64 d.n) (v2 := .int .i64 d.m) (v3 := u) (fun k hk => Nat.ne_of_gt (hF k hk))
  exact ⟨⟨dv, e1, okB.mono h2 fun k hk => Nat.le_of_lt (hF k hk)⟩, hb.trans (below_set4 (w := w') (b := w.heap.size) (v0 := .int .i64 d.kind) (v1 := .int .i64 d.n) (v2 := .int .i64 d.m) (v3 := u) (Nat.le_refl _)), c0, c1, c2, c3⟩
theorem hexA_all : ∀ n, n < 256 → -1 ≤ hexA (UInt8.ofNat n) ∧ hexA (UInt8.ofNat n) ≤ 15 := by decide +kernel
theorem hexA_bounds (c : UInt8) : -1 ≤ hexA c ∧ hexA c ≤ 15 := by
  have := hexA_all c.toNat c.toNat_lt
  rw [UInt8.ofNat_toNat] at this
  exact this
theorem hex_val (c d : UInt8) : wrap64 (wrap64 (16 * max (hexA c) 0) + max (hexA d) 0) % 256 = (((hexB c d).toNat : Nat) : Int) := by
  have h1 := hexA_bounds c
  have h2 := hexA_bounds d
  unfold hexB
  generalize hexA c = a at *
  generalize hexA d = b at *
  obtain ⟨x, hx⟩ : ∃ x : Nat, max a 0 = x := ⟨(max a 0).toNat, by omega⟩
  obtain ⟨y, hy⟩ : ∃ y : Nat, max b 0 = y := ⟨(max b 0).toNat, by omega⟩
  have hx15 : x ≤ 15 := by omega
  have hy15 : y ≤ 15 := by omega
  rw [hx, hy]
  have e1 : wrap64 (16 * (x : Int)) = ((16 * x : Nat) : Int) := by unfold wrap64; omega
  have e2 : wrap64 (((16 * x : Nat) : Int) + (y : Int)) = ((16 * x + y : Nat) : Int) := by unfold wrap64; omega
  rw [e1, e2, show (16 * (x : Int) + (y : Int)).toNat = 16 * x + y by omega, UInt8.toNat_ofNat']
  omega
theorem drop_two {p : ByteArray} {q : Nat} {c d : UInt8} {h1 : q < p.size} {h2 : q + 1 < p.size} (hc : p[q]'h1 = c) (hd : p[q + 1]'h2 = d) : p.data.toList.drop q = c :: d :: p.data.toList.drop (q + 2) := by
  have l1 : q < p.data.toList.length := h1
  have l2 : q + 1 < p.data.toList.length := h2
  rw [List.drop_eq_getElem_cons l1, List.drop_eq_getElem_cons l2]
  subst hc
  subst hd
  rfl
theorem idx_hex (c : UInt8) : Value.int .i64 (Lib.indexByte (⟨#[48, 49, 50, 51, 52, 53, 54, 55, 56, 57, 97, 98, 99, 100, 101, 102]⟩ : ByteArray).data.toList ((c.toNat : Nat) : Int).toNat.toUInt8) = .int .i64 (hexA c) := by
  rw [Int.toNat_natCast]
  have : c.toNat.toUInt8 = c := by simp
  rw [this]
  rfl
theorem meas_two {q n : Nat} (h : q < n) : n + 2 - (intOf (.int .i64 ((q : Int) + 2))).toNat < n + 2 - (intOf (.int .i64 (q : Int))).toNat := by
  simp only [intOf]
  omega
theorem kind_cases (l : List UInt8) : kindP l = 0 ∨ kindP l = 1 ∨ kindP l = 2 := by
  unfold kindP
  split
  · exact .inr (.inl rfl)
  · split
    · exact .inr (.inr rfl)
    · exact .inl rfl
theorem piece_none {ps : List (List UInt8)} (h : kindP (ps.getD 0 []) = 0) : pieceP ps = (zeroD, 1) := by unfold pieceP; rw [if_pos h]
theorem piece_form {ps : List (List UInt8)} (h : kindP (ps.getD 0 []) ≠ 0) (h3 : ps.length ≠ 3) : pieceP ps = (zeroD, 2) := by unfold pieceP; rw [if_neg h, if_pos h3]
theorem piece_swap {a b c : List UInt8} (h : kindP a = 2) : pieceP [a, b, c] = endP ⟨2, (numP b).1, (numP c).1, []⟩ ((numP b).2 && (numP c).2) := by
  unfold pieceP
  rw [if_neg (by simp [h]), if_neg (by simp), if_pos (by simpa using h)]
  rfl
theorem piece_odd {a b c : List UInt8} (h : kindP a = 1) (hq : (numP b).2 = false ∨ c.length % 2 ≠ 0) : pieceP [a, b, c] = (zeroD, 2) := by
  unfold pieceP
  rw [if_neg (by simp [h]), if_neg (by simp), if_neg (by simp [h]), if_pos (by simpa using hq)]
theorem piece_write {a b c : List UInt8} (h : kindP a = 1) (h1 : (numP b).2 = true) (h2 : c.length % 2 = 0) : pieceP [a, b, c] = endP ⟨1, (numP b).1, 0, (hexP c).1⟩ (hexP c).2 := by
  unfold pieceP
  rw [if_neg (by simp [h]), if_neg (by simp), if_neg (by simp [h]), if_neg (by simp [h1, h2])]
  rfl
set_option maxRecDepth 100000 in
set_option maxHeartbeats 12800000 in
theorem text_Parse (s : ByteArray) (hs : s.size ≤ 1048576) (w : World) (hv : Vars w) :
    Calls Tryd.prog 9 #[.string s] w fun e w' => ∃ v', e = .returned (.tuple #[v', .int .i64 (parseP s.data.toList).2]) ∧ RdD w' (fun k => w.heap.size ≤ k) v' (parseP s.data.toList).1 ∧ Below w.heap.size w w' := by
  have hmm := @run_makeMap Tryd.prog
  have hZ1 := boxAt_new w 24 [.int .i64 0, .int .i64 0, .int .i64 0, .slice none 0 0]
  have hb1 := below_alloc w (.cells #[.int .i64 0, .int .i64 0, .int .i64 0, .slice none 0 0] 24)
  obtain ⟨w1, hw1⟩ : ∃ x, w.alloc (.cells #[.int .i64 0, .int .i64 0, .int .i64 0, .slice none 0 0] 24) = x := ⟨_, rfl⟩
  change BoxAt (w.alloc (.cells #[.int .i64 0, .int .i64 0, .int .i64 0, .slice none 0 0] 24)) _ _ _ at hZ1
  rw [hw1] at hZ1 hb1
  have hv1 := hv.grow hb1
  obtain ⟨m, hm⟩ := hv1.ml
  have hPP : parseP s.data.toList = pieceP ((Lib.splitB sp 0 (Lib.countB s sp) s).map (·.data.toList)) := by
    unfold parseP
    rw [Lib.splitB_data]
    rfl
  have hlen := Lib.splitB_all sp (by decide) 0 _ s rfl
  have hpl := fun p hp => piece_le sp 0 (Lib.countB s sp) s p hp
  have hcnt : Lib.countB s sp ≤ 1048576 := Nat.le_trans (Lib.countB_le sp (by decide) _ s (Nat.le_refl _)) hs
  go_enter Tryd.func9, Tryd.ntmps9
  go_wp2_with fail
  refine (Tryd.strings_Split s sp m _ (by omega) hm (by decide)).mono ?_
  rintro e w2 ⟨rfl, hw2⟩
  clear hw1 hm
  generalize hps : Lib.splitB sp 0 (Lib.countB s sp) s = ps at *
  rw [← hlen]
  have hrow := pieces_rd w1 ps (by omega)
  have hb2 := below_alloc w1 (.cells (ps.map Value.string).toArray 9)
  rw [← hw2] at hrow hb2
  have hZ2 := hZ1.grow hb2
  have hB2 := hb1.trans (hb2.mono hb1.size)
  have hv2 := hv1.grow hb2
  clear hw2 hps hcnt
  obtain ⟨p0, hp0⟩ : ∃ p, ps[0]? = some p := ⟨ps[0]'(by omega), List.getElem?_eq_getElem _⟩
  have hp0s := hpl p0 (List.mem_of_getElem? hp0)
  obtain ⟨u0, hc0, hu0⟩ := RdL_q hrow (k := 0) (x := .string p0) (by rw [List.getElem?_map, hp0]; rfl)
  obtain rfl : u0 = .string p0 := hu0.1
  rw [Nat.add_zero] at hc0
  obtain ⟨w3, w4, r1, r2, r3, hb4⟩ := kind_map w2 p0 (by omega)
  have hc04 := (hb4.cell (World.block_lt_of_cell? _ _ hc0)).trans hc0
  have hrow4 := okRVL.grow hrow hb4
  have hl14 : w1.heap.size < w4.heap.size := World.block_lt_of_cell? _ _ hc04
  have hZ4 := hZ2.grow hb4
  have hB4 := hB2.trans (hb4.mono hB2.size)
  have hv4 := hv2.grow hb4
  have hk0 : kindP ((ps.map (·.data.toList)).getD 0 []) = kindP p0.data.toList := by simp [List.getD, hp0]
  have hpos : 0 < ps.length := by omega
  have hpos2 : (0 : Int) < (ps.length : Int) := by omega
  have HP0 := Lib.hid hp0
  have HV0 := Lib.hid hv
  clear hc0 hrow hZ2 hB2 hv2 hZ1 hb1 hb2 hb4 hv1 hp0 hp0s hv
  have hD5 := boxAt_new w4 24 [.int .i64 (kindP p0.data.toList), .int .i64 0, .int .i64 0, .slice none 0 0]
  have hal := below_alloc w4 (.cells #[.int .i64 (kindP p0.data.toList), .int .i64 0, .int .i64 0, .slice none 0 0] 24)
  obtain ⟨w5, hw5⟩ : ∃ x, w4.alloc (.cells #[.int .i64 (kindP p0.data.toList), .int .i64 0, .int .i64 0, .slice none 0 0] 24) = x := ⟨_, rfl⟩
  change BoxAt (w4.alloc (.cells #[.int .i64 (kindP p0.data.toList), .int .i64 0, .int .i64 0, .slice none 0 0] 24)) _ _ _ at hD5
  rw [hw5] at hD5 hal
  have HW5 := Lib.hid hw5
  clear hw5
  have hal5 := Lib.hid hal
  have HZ5 := Lib.hid (hZ4.grow hal)
  have HB5 := Lib.hid (hB4.trans (hal.mono hB4.size))
  have HR5 := Lib.hid (okRVL.grow hrow4 hal)
  have HV5 := Lib.hid (hv4.grow hal)
  have hzl := hZ4.lt
  have HZ4 := Lib.hid hZ4
  have HB4 := Lib.hid hB4
  have HR4 := Lib.hid hrow4
  have HD5 := Lib.hid hD5
  clear hal hZ4 hB4 hrow4 hv4 hD5
  obtain ⟨z8, f8⟩ := HZ4.out.eight
  obtain ⟨z0, z1, z2, z3⟩ := z8
  obtain ⟨f0, f1, f2, f3⟩ := f8
  have hEnd0 := fun o => no_end0 o HZ4.out rfl HB4.out
  rcases kind_cases p0.data.toList with hK | hK | hK
  · have HF : Hid (parseP s.data.toList = (zeroD, 1)) := Lib.hid (by rw [hPP]; exact piece_none (by rw [hk0, hK]))
    rw [hK] at r3
    have HEnd := Lib.hid (hEnd0 (.cells #[.int .i64 0, .int .i64 0, .int .i64 0, .slice none 0 0] 24))
    clear hPP hk0 hK hlen hpl hEnd0
    go_wp2_with fail
    clear r1 r2 r3 hmm hc04 z0 z1 z2 z3 f0 f1 f2 f3
    generalize ((((w4.setCell ⟨w.heap.size, 0, none⟩ (.int .i64 0)).setCell ⟨w.heap.size, 1, none⟩ (.int .i64 0)).setCell ⟨w.heap.size, 2, none⟩ (.int .i64 0)).setCell ⟨w.heap.size, 3, none⟩ (.slice none 0 0)).alloc (.cells #[.int .i64 0, .int .i64 0, .int .i64 0, .slice none 0 0] 24) = wF at *
    obtain ⟨r0, r1, c0, c1, c2, c3⟩ := HEnd.out
    exact bodyPost_ret (v := .tuple #[.agg #[.int .i64 0, .int .i64 0, .int .i64 0, .slice none 0 0], .int .i64 1]) (by simp [results, Tryd.results9, go_sem, c0, c1, c2, c3]) rfl (by rw [HF.out]; exact ⟨_, rfl, r0, r1⟩)
  · skip
    by_cases h3 : ps.length = 3
    rotate_left
    · have HF : Hid (parseP s.data.toList = (zeroD, 2)) := Lib.hid (by rw [hPP]; exact piece_form (by rw [hk0, hK]; decide) (by rw [List.length_map]; exact h3))
      rw [hK] at r3
      have HEnd := Lib.hid (hEnd0 (.cells #[.int .i64 1, .int .i64 0, .int .i64 0, .slice none 0 0] 24))
      have hne : ((ps.length : Int) != 3) = true := by rw [bne_iff_ne]; omega
      clear hPP hk0 hK hlen hpl h3 hEnd0
      go_wp2_with fail
      clear r1 r2 r3 hmm hc04 z0 z1 z2 z3 f0 f1 f2 f3
      generalize ((((w4.setCell ⟨w.heap.size, 0, none⟩ (.int .i64 0)).setCell ⟨w.heap.size, 1, none⟩ (.int .i64 0)).setCell ⟨w.heap.size, 2, none⟩ (.int .i64 0)).setCell ⟨w.heap.size, 3, none⟩ (.slice none 0 0)).alloc (.cells #[.int .i64 1, .int .i64 0, .int .i64 0, .slice none 0 0] 24) = wF at *
      obtain ⟨r0, r1, c0, c1, c2, c3⟩ := HEnd.out
      exact bodyPost_ret (v := .tuple #[.agg #[.int .i64 0, .int .i64 0, .int .i64 0, .slice none 0 0], .int .i64 2]) (by simp [results, Tryd.results9, go_sem, c0, c1, c2, c3]) rfl (by rw [HF.out]; exact ⟨_, rfl, r0, r1⟩)
    obtain ⟨q0, p1, p2, rfl⟩ : ∃ a b c, ps = [a, b, c] := by
      match ps, h3 with
      | [a, b, c], _ => exact ⟨a, b, c, rfl⟩
    obtain rfl : q0 = p0 := Option.some.inj HP0.out
    have HS1 := Lib.hid (hpl p1 (by simp))
    have HS2 := Lib.hid (hpl p2 (by simp))
    obtain ⟨u1, hc1, hu1⟩ := RdL_q HR4.out (k := 1) (x := .string p1) rfl
    obtain rfl : u1 = .string p1 := hu1.1
    obtain ⟨u2, hc2, hu2⟩ := RdL_q HR4.out (k := 2) (x := .string p2) rfl
    obtain rfl : u2 = .string p2 := hu2.1
    rw [Nat.zero_add] at hc1 hc2
    have HC2 := Lib.hid hc2
    rw [hK] at r3 HW5 HD5
    have HPP : Hid (parseP s.data.toList = pieceP [q0.data.toList, p1.data.toList, p2.data.toList]) := Lib.hid hPP
    have HK := Lib.hid hK
    clear hPP hk0 hK hlen hpl h3 hu1 hu2 hc2 hEnd0
    go_wp2_with fail
    rw [HW5.out]
    clear HW5 r1 r2 r3 hmm hc1 hc04 z0 z1 z2 z3 f0 f1 f2 f3
    refine (text_number p1 (by have := HS1.out; omega) w5 HV5.out).mono ?_
    rintro e w6 ⟨rfl, hb6⟩
    have HZ6 := Lib.hid (HZ5.out.grow hb6)
    have HB6 := Lib.hid (HB5.out.trans (hb6.mono HB5.out.size))
    have HV6 := Lib.hid (HV5.out.grow hb6)
    have HD6 := Lib.hid (HD5.out.grow hb6)
    have HR6 := Lib.hid (okRVL.mono (okRVL.grow (okRVL.grow (okRVL.lt HR4.out) hal5.out) hb6) (F' := fun k => k < w4.heap.size) fun k hk => hk.2)
    clear hb6 HZ5 HB5 HV5 HD5 HC2 HR5
    generalize hn1 : (numP p1.data.toList).1 = n1 at *
    generalize ho1 : (numP p1.data.toList).2 = ok1 at *
    obtain ⟨d8, g8⟩ := HD6.out.eight
    obtain ⟨d0, d1, d2, d3⟩ := d8
    obtain ⟨g0, g1, g2, g3⟩ := g8
    have hBD : w.heap.size ≠ w4.heap.size := by omega
    have hD7 : BoxAt (w6.setCell ⟨w4.heap.size, 1, none⟩ (.int .i64 n1)) w4.heap.size 24 [.int .i64 1, .int .i64 n1, .int .i64 0, .slice none 0 0] := HD6.out.set_ 1 (.int .i64 n1)
    have hZ7 := HZ6.out.far (b' := w4.heap.size) (j := 1) (v := .int .i64 n1) hBD
    have hB7 := HB6.out.setCell (p := ⟨w4.heap.size, 1, none⟩) (by show w.heap.size ≤ w4.heap.size; omega) (.int .i64 n1)
    have hR7 := okRVL.setc HR6.out (b := w4.heap.size) (j := 1) (v := .int .i64 n1) fun k hk => Nat.ne_of_lt hk
    obtain ⟨w7, hw7⟩ : ∃ x, w6.setCell ⟨w4.heap.size, 1, none⟩ (.int .i64 n1) = x := ⟨_, rfl⟩
    rw [hw7] at hD7 hZ7 hB7 hR7
    have HD7 := Lib.hid hD7
    have HZ7 := Lib.hid hZ7
    have HB7 := Lib.hid hB7
    have HR7 := Lib.hid hR7
    have HV7 := Lib.hid (HV0.out.grow hB7)
    obtain ⟨u2, hc2, hu2⟩ := RdL_q hR7 (k := 2) (x := .string p2) rfl
    obtain rfl : u2 = .string p2 := hu2.1
    rw [Nat.zero_add] at hc2
    have e8 := HD7.out.eight
    obtain ⟨⟨m0, m1, m2, m3⟩, mf⟩ := e8
    clear hD7 hZ7 hB7 hR7 hu2 mf HD6 HZ6 HB6 HR6 HV6
    have hsz2 : p2.data.toList.length = p2.size := rfl
    cases hok1 : ok1
    · have HE : Hid (parseP s.data.toList = (zeroD, 2)) := Lib.hid (by rw [HPP.out]; exact piece_odd HK.out (.inl (by rw [ho1, hok1])))
      subst hok1
      clear HPP HK hn1 ho1
      have HEnd := Lib.hid (no_end HZ7.out rfl HB7.out)
      obtain ⟨⟨z0, z1, z2, z3⟩, f0, f1, f2, f3⟩ := HZ7.out.eight
      go_wp2_with fail
      refine wp_loop_rounds 1 ?_
      rw [rounds_succ]
      go_wp2_with fail
      clear z0 z1 z2 z3 f0 f1 f2 f3
      have HEnd' : Hid (Ends w (((((w7.setCell ⟨w.heap.size, 0, none⟩ (.int .i64 0)).setCell ⟨w.heap.size, 1, none⟩ (.int .i64 0)).setCell ⟨w.heap.size, 2, none⟩ (.int .i64 0)).setCell ⟨w.heap.size, 3, none⟩ (.slice none 0 0))) (zeroD) (0) (0) (0) (.slice none 0 0)) := HEnd
      clear HEnd
      generalize ((((w7.setCell ⟨w.heap.size, 0, none⟩ (.int .i64 0)).setCell ⟨w.heap.size, 1, none⟩ (.int .i64 0)).setCell ⟨w.heap.size, 2, none⟩ (.int .i64 0)).setCell ⟨w.heap.size, 3, none⟩ (.slice none 0 0)) = wF at *
      obtain ⟨r0, r1, c0, c1, c2, c3⟩ := HEnd'.out
      exact bodyPost_ret (v := .tuple #[.agg #[.int .i64 (0), .int .i64 (0), .int .i64 (0), .slice none 0 0], .int .i64 (2)]) (by simp [results, Tryd.results9, go_sem, c0, c1, c2, c3]) rfl (by rw [HE.out]; exact ⟨_, rfl, r0, r1⟩)
    subst hok1
    by_cases hev : p2.size % 2 = 0
    rotate_left
    · have HE : Hid (parseP s.data.toList = (zeroD, 2)) := Lib.hid (by rw [HPP.out]; exact piece_odd HK.out (.inr (by rw [hsz2]; exact hev)))
      have hm1 : (p2.size : Int).tmod 2 = 1 := by rw [Int.tmod_eq_emod_of_nonneg (by omega)]; omega
      have hm2 : (p2.size : Int) % 2 = 1 := by omega
      clear HPP HK hn1 ho1 hev hsz2
      have HEnd := Lib.hid (no_end HZ7.out rfl HB7.out)
      obtain ⟨⟨z0, z1, z2, z3⟩, f0, f1, f2, f3⟩ := HZ7.out.eight
      go_wp2_with fail
      refine wp_loop_rounds 1 ?_
      rw [rounds_succ]
      go_wp2_with fail
      clear z0 z1 z2 z3 f0 f1 f2 f3
      have HEnd' : Hid (Ends w (((((w7.setCell ⟨w.heap.size, 0, none⟩ (.int .i64 0)).setCell ⟨w.heap.size, 1, none⟩ (.int .i64 0)).setCell ⟨w.heap.size, 2, none⟩ (.int .i64 0)).setCell ⟨w.heap.size, 3, none⟩ (.slice none 0 0))) (zeroD) (0) (0) (0) (.slice none 0 0)) := HEnd
      clear HEnd
      generalize ((((w7.setCell ⟨w.heap.size, 0, none⟩ (.int .i64 0)).setCell ⟨w.heap.size, 1, none⟩ (.int .i64 0)).setCell ⟨w.heap.size, 2, none⟩ (.int .i64 0)).setCell ⟨w.heap.size, 3, none⟩ (.slice none 0 0)) = wF at *
      obtain ⟨r0, r1, c0, c1, c2, c3⟩ := HEnd'.out
      exact bodyPost_ret (v := .tuple #[.agg #[.int .i64 (0), .int .i64 (0), .int .i64 (0), .slice none 0 0], .int .i64 (2)]) (by simp [results, Tryd.results9, go_sem, c0, c1, c2, c3]) rfl (by rw [HE.out]; exact ⟨_, rfl, r0, r1⟩)
    have HPW : Hid (parseP s.data.toList = endP ⟨1, n1, 0, (hexP p2.data.toList).1⟩ (hexP p2.data.toList).2) := Lib.hid (by rw [HPP.out, piece_write HK.out ho1 (by rw [hsz2]; exact hev), hn1])
    have hm1 : (p2.size : Int).tmod 2 = 0 := by rw [Int.tmod_eq_emod_of_nonneg (by omega)]; omega
    have hm2 : (p2.size : Int) % 2 = 0 := by omega
    have HEV := Lib.hid (And.intro hev hsz2)
    have HSZ2 := Lib.hid (show p2.size ≤ 1048576 by have := HS2.out; omega)
    clear HPP HK hn1 ho1 hev hsz2
    go_wp2_with fail
    clear hw7 hc2 m0 m1 m2 m3 d0 d1 d2 d3 g0 g1 g2 g3 hm1 hm2
    go_loopw [7, 10] (fun okv i wr => ∃ (j q : Nat) (b : Bool) (xs : Bs) (u : Value), okv = .bool b ∧ i = .int .i64 (q : Int) ∧ q ≤ p2.size ∧ (q = 2 * j ∧ xs.length = j) ∧ (b = true → hexP p2.data.toList = (xs ++ (hexP (p2.data.toList.drop q)).1, (hexP (p2.data.toList.drop q)).2)) ∧ (b = false → hexP p2.data.toList = (xs, false)) ∧ BoxAt wr w4.heap.size 24 [.int .i64 1, .int .i64 n1, .int .i64 0, u] ∧ Bld R8 5 wr (w4.heap.size + 1) (fun _ => True) u xs ∧ BoxAt wr w.heap.size 24 [.int .i64 0, .int .i64 0, .int .i64 0, .slice none 0 0] ∧ RdL RV wr (fun k => k < w4.heap.size) (.slice (some ⟨w1.heap.size, 0, none⟩) 3 3) [.string q0, .string p1, .string p2] ∧ Below w.heap.size w wr) (fun _ i _ => p2.size + 2 - (intOf i).toNat)
    case atStart => exact ⟨0, 0, true, [], _, rfl, rfl, Nat.zero_le _, ⟨rfl, rfl⟩, fun _ => by simp, (fun h => by cases h), HD7.out, Bld.nil_ _ _ _ _ _, HZ7.out, HR7.out, HB7.out⟩
    case round =>
      clear HD7 HZ7 HB7 HR7 HV7
      obtain ⟨j, q, b, xs, u, rfl, rfl, hj, hxl, hbt, hbf, hD, hU, hZ, hR, hB⟩ := hrel
      have HXL := Lib.hid hxl
      clear hxl
      have HD := Lib.hid hD
      have HU := Lib.hid hU
      have HZ := Lib.hid hZ
      have HR := Lib.hid hR
      have HB := Lib.hid hB
      obtain ⟨u2, hc2, hu2⟩ := RdL_q hR (k := 2) (x := .string p2) rfl
      obtain rfl : u2 = .string p2 := hu2.1
      rw [Nat.zero_add] at hc2
      obtain ⟨m0, m1, m2, m3⟩ := hD.four
      clear hD hU hZ hR hB hu2
      cases b
      · have HE : Hid (parseP s.data.toList = (zeroD, 2)) := Lib.hid (by rw [HPW.out, hbf rfl]; rfl)
        clear hbt hbf HPW
        have HEnd := Lib.hid (no_end HZ.out rfl HB.out)
        obtain ⟨⟨z0, z1, z2, z3⟩, f0, f1, f2, f3⟩ := HZ.out.eight
        go_wp2_with fail
        clear z0 z1 z2 z3 f0 f1 f2 f3
        have HEnd' : Hid (Ends w (((((wr.setCell ⟨w.heap.size, 0, none⟩ (.int .i64 0)).setCell ⟨w.heap.size, 1, none⟩ (.int .i64 0)).setCell ⟨w.heap.size, 2, none⟩ (.int .i64 0)).setCell ⟨w.heap.size, 3, none⟩ (.slice none 0 0))) (zeroD) (0) (0) (0) (.slice none 0 0)) := HEnd
        clear HEnd
        generalize ((((wr.setCell ⟨w.heap.size, 0, none⟩ (.int .i64 0)).setCell ⟨w.heap.size, 1, none⟩ (.int .i64 0)).setCell ⟨w.heap.size, 2, none⟩ (.int .i64 0)).setCell ⟨w.heap.size, 3, none⟩ (.slice none 0 0)) = wF at *
        obtain ⟨r0, r1, c0, c1, c2, c3⟩ := HEnd'.out
        exact bodyPost_ret (v := .tuple #[.agg #[.int .i64 (0), .int .i64 (0), .int .i64 (0), .slice none 0 0], .int .i64 (2)]) (by simp [results, Tryd.results9, go_sem, c0, c1, c2, c3]) rfl (by rw [HE.out]; exact ⟨_, rfl, r0, r1⟩)
      by_cases hlt : q < p2.size
      rotate_left
      · have hHX : hexP p2.data.toList = (xs, true) := by
          have := HEV.out
          have := HXL.out
          rw [hbt rfl, List.drop_eq_nil_of_le (by omega)]
          simp [hexP]
        have HPE : Hid (parseP s.data.toList = endP ⟨1, n1, 0, xs⟩ true) := Lib.hid (by rw [HPW.out, hHX])
        have dl : decide ((q : Int) < (p2.size : Int)) = false := by simp; omega
        have hrd : RdB wr (fun k => w4.heap.size + 1 ≤ k) u xs := (HU.out.bytes (G' := fun _ => False)).toRd ok8 (F := fun k => w4.heap.size + 1 ≤ k) (fun _ hk => hk) (fun _ h => h.elim)
        obtain ⟨Au, cu, rfl, _, _⟩ := hrd.shape
        have HRD := Lib.hid hrd
        clear hrd hbt hbf hHX HPW
        go_wp2_with fail
        clear m0 m1 m2 m3 hc2 dl
        refine (model_Wrong ⟨1, n1, 0, xs⟩ _ _ wr ⟨_, rfl, HRD.out⟩).mono ?_
        rintro e w10 ⟨rfl, hb10⟩
        have HD10 := Lib.hid (HD.out.grow hb10)
        have HZ10 := Lib.hid (HZ.out.grow hb10)
        have HB10 := Lib.hid (HB.out.trans (hb10.mono HB.out.size))
        have HR10 := Lib.hid (okB.grow HRD.out hb10)
        clear hb10 HD HZ HB HRD HU HR
        obtain ⟨m0, m1, m2, m3⟩ := HD10.out.four
        by_cases hr : wrongI ⟨1, n1, 0, xs⟩ = 0
        · have HE : Hid (parseP s.data.toList = (⟨1, n1, 0, xs⟩, 0)) := Lib.hid (by rw [HPE.out]; unfold endP; rw [if_neg (by decide), if_neg (by simpa using hr)])
          rw [hr]
          clear hr HPE
          have HEnd := Lib.hid (put_end ⟨1, n1, 0, xs⟩ (.slice Au xs.length cu) HZ10.out rfl HB10.out HR10.out (fun k hk => by omega))
          obtain ⟨⟨z0, z1, z2, z3⟩, f0, f1, f2, f3⟩ := HZ10.out.eight
          go_wp2_with fail
          clear z0 z1 z2 z3 f0 f1 f2 f3
          have HEnd' : Hid (Ends w (((((w10.setCell ⟨w.heap.size, 0, none⟩ (.int .i64 1)).setCell ⟨w.heap.size, 1, none⟩ (.int .i64 n1)).setCell ⟨w.heap.size, 2, none⟩ (.int .i64 0)).setCell ⟨w.heap.size, 3, none⟩ (.slice Au xs.length cu))) (⟨1, n1, 0, xs⟩) (1) (n1) (0) (.slice Au xs.length cu)) := HEnd
          clear HEnd
          generalize ((((w10.setCell ⟨w.heap.size, 0, none⟩ (.int .i64 1)).setCell ⟨w.heap.size, 1, none⟩ (.int .i64 n1)).setCell ⟨w.heap.size, 2, none⟩ (.int .i64 0)).setCell ⟨w.heap.size, 3, none⟩ (.slice Au xs.length cu)) = wF at *
          obtain ⟨r0, r1, c0, c1, c2, c3⟩ := HEnd'.out
          exact bodyPost_ret (v := .tuple #[.agg #[.int .i64 (1), .int .i64 (n1), .int .i64 (0), .slice Au xs.length cu], .int .i64 (0)]) (by simp [results, Tryd.results9, go_sem, c0, c1, c2, c3]) rfl (by rw [HE.out]; exact ⟨_, rfl, r0, r1⟩)
        · have HE : Hid (parseP s.data.toList = (zeroD, wrongI ⟨1, n1, 0, xs⟩)) := Lib.hid (by rw [HPE.out]; unfold endP; rw [if_neg (by decide), if_pos (by simpa using hr)])
          have hne : (wrongI ⟨1, n1, 0, xs⟩ != 0) = true := by simpa using hr
          generalize wrongI ⟨1, n1, 0, xs⟩ = er at *
          clear hr HPE
          have HEnd := Lib.hid (no_end HZ10.out rfl HB10.out)
          obtain ⟨⟨z0, z1, z2, z3⟩, f0, f1, f2, f3⟩ := HZ10.out.eight
          go_wp2_with fail
          clear z0 z1 z2 z3 f0 f1 f2 f3
          have HEnd' : Hid (Ends w (((((w10.setCell ⟨w.heap.size, 0, none⟩ (.int .i64 0)).setCell ⟨w.heap.size, 1, none⟩ (.int .i64 0)).setCell ⟨w.heap.size, 2, none⟩ (.int .i64 0)).setCell ⟨w.heap.size, 3, none⟩ (.slice none 0 0))) (zeroD) (0) (0) (0) (.slice none 0 0)) := HEnd
          clear HEnd
          generalize ((((w10.setCell ⟨w.heap.size, 0, none⟩ (.int .i64 0)).setCell ⟨w.heap.size, 1, none⟩ (.int .i64 0)).setCell ⟨w.heap.size, 2, none⟩ (.int .i64 0)).setCell ⟨w.heap.size, 3, none⟩ (.slice none 0 0)) = wF at *
          obtain ⟨r0, r1, c0, c1, c2, c3⟩ := HEnd'.out
          exact bodyPost_ret (v := .tuple #[.agg #[.int .i64 (0), .int .i64 (0), .int .i64 (0), .slice none 0 0], .int .i64 (er)]) (by simp [results, Tryd.results9, go_sem, c0, c1, c2, c3]) rfl (by rw [HE.out]; exact ⟨_, rfl, r0, r1⟩)
      · have hlt2 : q + 1 < p2.size := by have := HEV.out; have := HXL.out; omega
        obtain ⟨c, hc⟩ : ∃ c, p2[q]'hlt = c := ⟨_, rfl⟩
        obtain ⟨d, hd⟩ : ∃ d, p2[q + 1]'hlt2 = d := ⟨_, rfl⟩
        have dl : decide ((q : Int) < (p2.size : Int)) = true := by simp; omega
        have HC := Lib.hid (And.intro hc hd)
        have HBT := Lib.hid (hbt rfl)
        have HW1 := Lib.hid (And.intro (wrap_nat (j := q + 1) (by have := HSZ2.out; omega)) (show wrap64 ((q : Int) + 1) = (q : Int) + 1 by have := HSZ2.out; unfold wrap64; omega))
        clear hbt hbf hc hd
        go_wp2_with fail
        refine region_list [Cv (.slice (some ⟨w1.heap.size, 0, none⟩) 3 3), Cv (.pointer (some ⟨w1.heap.size, 2, none⟩)), Cv (.string p2), Cv (.int .i64 (q : Int)), Cv (.int .u8 ((c.toNat : Nat) : Int)), Cv (.int .i64 (hexA c)), Cv (.slice (some ⟨w1.heap.size, 0, none⟩) 3 3), Cv (.pointer (some ⟨w1.heap.size, 2, none⟩)), Cv (.string p2), Cv (.int .i64 (q : Int)), Cv (.int .i64 ((q : Int) + 1)), Cv (.int .u8 ((d.toNat : Nat) : Int)), Cv (.int .i64 (hexA d)), Cv (.int .i64 (hexA c)), Cv (.int .i64 (hexA d))] (by kernel_rfl) (by kernel_rfl) (by kernel_rfl) ?_ ?_ ?_
        · repeat (first | exact trivial | refine ⟨mC _, ?_⟩ | refine ⟨mR okB _, ?_⟩ | refine ⟨mT, ?_⟩ | refine ⟨mR okBB _, ?_⟩ | refine ⟨mR okBBB _, ?_⟩ | refine ⟨mR (okL okI) _, ?_⟩ | refine ⟨mKt _, ?_⟩ | refine ⟨mRa _ _, ?_⟩)
        · simp only [StepsL]
          refine ⟨?_, ?_, ?_, ?_, ?_, ?_, ?_, ?_, ?_, ?_, ?_, ?_, ?_, ?_, ?_, trivial⟩
          · intro ys wx hw hd K hK
            simp only [putL, Act.put, List.setIfInBounds_toArray, List.set_cons_zero, List.set_cons_succ, Nat.zero_add, Nat.reduceAdd] at hK ⊢
            rw [if_pos (by rfl)]
            go_simp
            exact hK _ _ (Below.refl _ _) rfl
          · intro ys wx hw hd K hK
            have e0 : ys 0 = _ := hd 0 (by decide)
            simp only [putL, Act.put, List.setIfInBounds_toArray, List.set_cons_zero, List.set_cons_succ, Nat.zero_add, Nat.reduceAdd, e0] at hK ⊢
            rw [if_pos (by rfl)]
            go_simp
            exact hK _ _ (Below.refl _ _) rfl
          · intro ys wx hw hd K hK
            have e1 : ys 1 = _ := hd 1 (by decide)
            simp only [putL, Act.put, List.setIfInBounds_toArray, List.set_cons_zero, List.set_cons_succ, Nat.zero_add, Nat.reduceAdd, e1] at hK ⊢
            rw [if_pos (by rfl)]
            have kx := (hw.cell (World.block_lt_of_cell? _ _ hc2)).trans hc2
            go_simp
            exact hK _ _ (Below.refl _ _) rfl
          · intro ys wx hw hd K hK
            simp only [putL, Act.put, List.setIfInBounds_toArray, List.set_cons_zero, List.set_cons_succ, Nat.zero_add, Nat.reduceAdd] at hK ⊢
            rw [if_pos (by rfl)]
            go_simp
            exact hK _ _ (Below.refl _ _) rfl
          · intro ys wx hw hd K hK
            have e2 : ys 2 = _ := hd 2 (by decide)
            have e3 : ys 3 = _ := hd 3 (by decide)
            simp only [putL, Act.put, List.setIfInBounds_toArray, List.set_cons_zero, List.set_cons_succ, Nat.zero_add, Nat.reduceAdd, e2, e3] at hK ⊢
            rw [if_pos (by rfl)]
            have r0 : (0 : Int) ≤ q := by omega
            have r1 : (q : Int) < p2.size := by omega
            have r2 : (q : Int).toNat = q := by omega
            have r3 := HC.out.1
            go_simp
            exact hK _ _ (Below.refl _ _) rfl
          · intro ys wx hw hd K hK
            have e4 : ys 4 = _ := hd 4 (by decide)
            simp only [putL, Act.put, List.setIfInBounds_toArray, List.set_cons_zero, List.set_cons_succ, Nat.zero_add, Nat.reduceAdd, e4] at hK ⊢
            rw [if_pos (by rfl)]
            go_simp
            refine (Tryd.strings_IndexByte ⟨#[48, 49, 50, 51, 52, 53, 54, 55, 56, 57, 97, 98, 99, 100, 101, 102]⟩ ((c.toNat : Nat) : Int) wx).mono ?_
            rintro e w' ⟨rfl, rfl⟩
            exact hK _ _ (Below.refl _ _) (idx_hex c)
          · intro ys wx hw hd K hK
            simp only [putL, Act.put, List.setIfInBounds_toArray, List.set_cons_zero, List.set_cons_succ, Nat.zero_add, Nat.reduceAdd] at hK ⊢
            rw [if_pos (by rfl)]
            go_simp
            exact hK _ _ (Below.refl _ _) rfl
          · intro ys wx hw hd K hK
            have e6 : ys 6 = _ := hd 6 (by decide)
            simp only [putL, Act.put, List.setIfInBounds_toArray, List.set_cons_zero, List.set_cons_succ, Nat.zero_add, Nat.reduceAdd, e6] at hK ⊢
            rw [if_pos (by rfl)]
            go_simp
            exact hK _ _ (Below.refl _ _) rfl
          · intro ys wx hw hd K hK
            have e7 : ys 7 = _ := hd 7 (by decide)
            simp only [putL, Act.put, List.setIfInBounds_toArray, List.set_cons_zero, List.set_cons_succ, Nat.zero_add, Nat.reduceAdd, e7] at hK ⊢
            rw [if_pos (by rfl)]
            have kx := (hw.cell (World.block_lt_of_cell? _ _ hc2)).trans hc2
            go_simp
            exact hK _ _ (Below.refl _ _) rfl
          · intro ys wx hw hd K hK
            simp only [putL, Act.put, List.setIfInBounds_toArray, List.set_cons_zero, List.set_cons_succ, Nat.zero_add, Nat.reduceAdd] at hK ⊢
            rw [if_pos (by rfl)]
            go_simp
            exact hK _ _ (Below.refl _ _) rfl
          · intro ys wx hw hd K hK
            have e9 : ys 9 = _ := hd 9 (by decide)
            simp only [putL, Act.put, List.setIfInBounds_toArray, List.set_cons_zero, List.set_cons_succ, Nat.zero_add, Nat.reduceAdd, e9] at hK ⊢
            rw [if_pos (by rfl)]
            obtain ⟨r0, r1⟩ := HW1.out
            have r2 : IntKind.i64.wrap ((q : Int) + 1) = (q : Int) + 1 := by have := r0; push_cast at this; exact this
            clear r0
            go_simp
            exact hK _ _ (Below.refl _ _) rfl
          · intro ys wx hw hd K hK
            have e8 : ys 8 = _ := hd 8 (by decide)
            have e10 : ys 10 = _ := hd 10 (by decide)
            simp only [putL, Act.put, List.setIfInBounds_toArray, List.set_cons_zero, List.set_cons_succ, Nat.zero_add, Nat.reduceAdd, e8, e10] at hK ⊢
            rw [if_pos (by rfl)]
            have r0 : (0 : Int) ≤ (q : Int) + 1 := by omega
            have r1 : (q : Int) + 1 < p2.size := by omega
            have r2 : ((q : Int) + 1).toNat = q + 1 := by omega
            have r3 := HC.out.2
            go_simp
            exact hK _ _ (Below.refl _ _) rfl
          · intro ys wx hw hd K hK
            have e11 : ys 11 = _ := hd 11 (by decide)
            simp only [putL, Act.put, List.setIfInBounds_toArray, List.set_cons_zero, List.set_cons_succ, Nat.zero_add, Nat.reduceAdd, e11] at hK ⊢
            rw [if_pos (by rfl)]
            go_simp
            refine (Tryd.strings_IndexByte ⟨#[48, 49, 50, 51, 52, 53, 54, 55, 56, 57, 97, 98, 99, 100, 101, 102]⟩ ((d.toNat : Nat) : Int) wx).mono ?_
            rintro e w' ⟨rfl, rfl⟩
            exact hK _ _ (Below.refl _ _) (idx_hex d)
          · intro ys wx hw hd K hK
            have e5 : ys 5 = _ := hd 5 (by decide)
            simp only [putL, Act.put, List.setIfInBounds_toArray, List.set_cons_zero, List.set_cons_succ, Nat.zero_add, Nat.reduceAdd, e5] at hK ⊢
            rw [if_pos (by rfl)]
            go_simp
            exact hK _ _ (Below.refl _ _) rfl
          · intro ys wx hw hd K hK
            have e12 : ys 12 = _ := hd 12 (by decide)
            simp only [putL, Act.put, List.setIfInBounds_toArray, List.set_cons_zero, List.set_cons_succ, Nat.zero_add, Nat.reduceAdd, e12] at hK ⊢
            rw [if_pos (by rfl)]
            go_simp
            exact hK _ _ (Below.refl _ _) rfl
        · intro ys w' hl' hV
          have e13 : ys 13 = _ := hV 13 (by decide)
          have e14 : ys 14 = _ := hV 14 (by decide)
          clear hV
          simp only [putL, Act.put, List.setIfInBounds_toArray, List.set_cons_zero, List.set_cons_succ, Nat.zero_add, Nat.reduceAdd, e13, e14]
          clear e13 e14
          rename World => wa
          have HDa := Lib.hid (HD.out.grow hl')
          have HUa := Lib.hid (HU.out.grow ok8 hl')
          have HZa := Lib.hid (HZ.out.grow hl')
          have HRa := Lib.hid (okRVL.grow HR.out hl')
          have HBa := Lib.hid (HB.out.trans (hl'.mono HB.out.size))
          have HA := Lib.hid (And.intro (hexA_bounds c) (hexA_bounds d))
          clear HD HU HZ HR HB hl' hc2 m0 m1 m2 m3 dl
          obtain ⟨⟨d0, d1, d2, d3⟩, g0, g1, g2, g3⟩ := HDa.out.eight
          generalize hac : hexA c = ac at *
          generalize had : hexA d = ad at *
          obtain ⟨na, mx1⟩ : ∃ na, max ac 0 = na := ⟨_, rfl⟩
          obtain ⟨nd, mx2⟩ : ∃ nd, max ad 0 = nd := ⟨_, rfl⟩
          have hval : wrap64 (wrap64 (16 * na) + nd) % 256 = (((hexB c d).toNat : Nat) : Int) := by
            rw [← mx1, ← mx2, ← hac, ← had]
            exact hex_val c d
          have HX : Hid (p2.data.toList.drop q = c :: d :: p2.data.toList.drop (q + 2)) := Lib.hid (drop_two HC.out.1 HC.out.2)
          have HAB : Hid (hexA c = ac ∧ hexA d = ad) := Lib.hid ⟨hac, had⟩
          have HT := Lib.hid (show (xs.length + 1) * 1 ≤ 140737488355328 by have := HXL.out; have := HSZ2.out; omega)
          have hsa : w4.heap.size + 1 ≤ wa.heap.size := HDa.out.lt
          have HQ2 := Lib.hid (And.intro (wrap_nat (j := q + 2) (by have := HSZ2.out; omega)) (show wrap64 ((q : Int) + 2) = (q : Int) + 2 by have := HSZ2.out; unfold wrap64; omega))
          have HQL := Lib.hid (And.intro hlt hlt2)
          clear hac had HC hlt hlt2
          by_cases hab : 0 ≤ ac ∧ 0 ≤ ad
          · have da1 : decide (0 ≤ ac) = true := by simpa using hab.1
            have da2 : decide (0 ≤ ad) = true := by simpa using hab.2
            have HNX : Hid (hexP p2.data.toList = (xs ++ [hexB c d] ++ (hexP (p2.data.toList.drop (q + 2))).1, (hexP (p2.data.toList.drop (q + 2))).2)) := Lib.hid (by
              rw [HBT.out, HX.out]
              conv => lhs; unfold hexP
              rw [if_pos (by rw [HAB.out.1, HAB.out.2]; exact hab)]
              simp)
            clear hab
            go_wp2_with (at_builtin; refine wpList_append_bld _ rfl _ _ 22 (by rfl) ok8 slB (w4.heap.size + 1) (fun _ => True) u _ xs [hexB c d] (by rfl) (by rfl) (Bld.alloc ok8 HUa.out _) (src_one ok8 HUa.out trivial rfl _ rfl) HT.out ?c2 ?c3)
            case c2 => rw [alloc_size]; omega
            case c3 =>
            intro v' w' r1 r2 r3 r4
            obtain ⟨A', c', rfl, _, _⟩ := ((r1.bytes (G' := fun _ => False)).toRd ok8 (F := fun k => w4.heap.size + 1 ≤ k) (fun _ hk => hk) (fun _ h => h.elim)).shape
            obtain ⟨n', hn'⟩ : ∃ n', (xs ++ [hexB c d]).length = n' := ⟨_, rfl⟩
            rw [hn'] at r1 ⊢
            clear hn' r3 r4
            have hal := below_alloc wa (.cells #[.int .u8 (((hexB c d).toNat : Nat) : Int)] 5)
            have hb' := (hal.mono hsa).trans r2
            have hD2 := HDa.out.keep hb' (Nat.lt_succ_self _)
            have hZ2 := HZa.out.keep hb' (by omega)
            have hR2 := okRVL.below HRa.out hb' fun k hk _ => Nat.lt_succ_of_lt hk
            have hB2 := HBa.out.trans (hb'.mono (by omega))
            obtain ⟨⟨y0, y1, y2, y3⟩, x0, x1, x2, x3⟩ := hD2.eight
            have hD3 : BoxAt (w'.setCell ⟨w4.heap.size, 3, none⟩ (.slice A' n' c')) w4.heap.size 24 [.int .i64 1, .int .i64 n1, .int .i64 0, .slice A' n' c'] := hD2.set_ 3 (.slice A' n' c')
            have hZ3 := hZ2.far (b' := w4.heap.size) (j := 3) (v := .slice A' n' c') hBD
            have hR3 := okRVL.setc hR2 (b := w4.heap.size) (j := 3) (v := .slice A' n' c') fun k hk => Nat.ne_of_lt hk
            have hB3 := hB2.setCell (p := ⟨w4.heap.size, 3, none⟩) (by show w.heap.size ≤ w4.heap.size; omega) (.slice A' n' c')
            have hU3 := ((r1.bytes (G' := fun _ => False)).setc ok8 (b := w4.heap.size) (j := 3) (v := .slice A' n' c') (fun k hk => by have := (r1.blk k hk).1; omega) (fun _ h => h.elim)).bytes (G' := fun _ => True)
            have HF := Lib.hid (And.intro hD3 (And.intro hU3 (And.intro hZ3 (And.intro hR3 hB3))))
            clear r1 r2 hal hb' hD2 hZ2 hR2 hB2 hD3 hZ3 hR3 hB3 hU3
            have r9 : IntKind.i64.wrap ((q : Int) + 2) = (q : Int) + 2 := by have := HQ2.out.1; push_cast at this; exact this
            go_wp2
            go_roundw
            case rel => exact ⟨j + 1, q + 2, true, xs ++ [hexB c d], .slice A' n' c', rfl, by rw [Int.natCast_add]; rfl, HQL.out.2, ⟨by have := HXL.out.1; omega, by rw [List.length_append, HXL.out.2]; rfl⟩, fun _ => HNX.out, (fun h => by cases h), HF.out.1, HF.out.2.1, HF.out.2.2.1, HF.out.2.2.2.1, HF.out.2.2.2.2⟩
            case measure => exact meas_two HQL.out.1
          by_cases ha0 : 0 ≤ ac
          · have da1 : decide (0 ≤ ac) = true := by simpa using ha0
            have da2 : decide (0 ≤ ad) = false := by
              rw [decide_eq_false_iff_not]
              exact fun h => hab ⟨ha0, h⟩
            have HNX : Hid (hexP p2.data.toList = (xs ++ [hexB c d], false)) := Lib.hid (by
              rw [HBT.out, HX.out]
              conv => lhs; unfold hexP
              rw [if_neg (by rw [HAB.out.1, HAB.out.2]; exact hab)])
            clear hab ha0
            go_wp2_with (at_builtin; refine wpList_append_bld _ rfl _ _ 22 (by rfl) ok8 slB (w4.heap.size + 1) (fun _ => True) u _ xs [hexB c d] (by rfl) (by rfl) (Bld.alloc ok8 HUa.out _) (src_one ok8 HUa.out trivial rfl _ rfl) HT.out ?c2 ?c3)
            case c2 => rw [alloc_size]; omega
            case c3 =>
            intro v' w' r1 r2 r3 r4
            obtain ⟨A', c', rfl, _, _⟩ := ((r1.bytes (G' := fun _ => False)).toRd ok8 (F := fun k => w4.heap.size + 1 ≤ k) (fun _ hk => hk) (fun _ h => h.elim)).shape
            obtain ⟨n', hn'⟩ : ∃ n', (xs ++ [hexB c d]).length = n' := ⟨_, rfl⟩
            rw [hn'] at r1 ⊢
            clear hn' r3 r4
            have hal := below_alloc wa (.cells #[.int .u8 (((hexB c d).toNat : Nat) : Int)] 5)
            have hb' := (hal.mono hsa).trans r2
            have hD2 := HDa.out.keep hb' (Nat.lt_succ_self _)
            have hZ2 := HZa.out.keep hb' (by omega)
            have hR2 := okRVL.below HRa.out hb' fun k hk _ => Nat.lt_succ_of_lt hk
            have hB2 := HBa.out.trans (hb'.mono (by omega))
            obtain ⟨⟨y0, y1, y2, y3⟩, x0, x1, x2, x3⟩ := hD2.eight
            have hD3 : BoxAt (w'.setCell ⟨w4.heap.size, 3, none⟩ (.slice A' n' c')) w4.heap.size 24 [.int .i64 1, .int .i64 n1, .int .i64 0, .slice A' n' c'] := hD2.set_ 3 (.slice A' n' c')
            have hZ3 := hZ2.far (b' := w4.heap.size) (j := 3) (v := .slice A' n' c') hBD
            have hR3 := okRVL.setc hR2 (b := w4.heap.size) (j := 3) (v := .slice A' n' c') fun k hk => Nat.ne_of_lt hk
            have hB3 := hB2.setCell (p := ⟨w4.heap.size, 3, none⟩) (by show w.heap.size ≤ w4.heap.size; omega) (.slice A' n' c')
            have hU3 := ((r1.bytes (G' := fun _ => False)).setc ok8 (b := w4.heap.size) (j := 3) (v := .slice A' n' c') (fun k hk => by have := (r1.blk k hk).1; omega) (fun _ h => h.elim)).bytes (G' := fun _ => True)
            have HF := Lib.hid (And.intro hD3 (And.intro hU3 (And.intro hZ3 (And.intro hR3 hB3))))
            clear r1 r2 hal hb' hD2 hZ2 hR2 hB2 hD3 hZ3 hR3 hB3 hU3
            have r9 : IntKind.i64.wrap ((q : Int) + 2) = (q : Int) + 2 := by have := HQ2.out.1; push_cast at this; exact this
            go_wp2
            go_roundw
            case rel => exact ⟨j + 1, q + 2, false, xs ++ [hexB c d], .slice A' n' c', rfl, by rw [Int.natCast_add]; rfl, HQL.out.2, ⟨by have := HXL.out.1; omega, by rw [List.length_append, HXL.out.2]; rfl⟩, (fun h => by cases h), fun _ => HNX.out, HF.out.1, HF.out.2.1, HF.out.2.2.1, HF.out.2.2.2.1, HF.out.2.2.2.2⟩
            case measure => exact meas_two HQL.out.1
          · have da1 : decide (0 ≤ ac) = false := by simpa using ha0
            have HNX : Hid (hexP p2.data.toList = (xs ++ [hexB c d], false)) := Lib.hid (by
              rw [HBT.out, HX.out]
              conv => lhs; unfold hexP
              rw [if_neg (by rw [HAB.out.1, HAB.out.2]; exact hab)])
            clear hab ha0
            go_wp2_with (at_builtin; refine wpList_append_bld _ rfl _ _ 22 (by rfl) ok8 slB (w4.heap.size + 1) (fun _ => True) u _ xs [hexB c d] (by rfl) (by rfl) (Bld.alloc ok8 HUa.out _) (src_one ok8 HUa.out trivial rfl _ rfl) HT.out ?c2 ?c3)
            case c2 => rw [alloc_size]; omega
            case c3 =>
            intro v' w' r1 r2 r3 r4
            obtain ⟨A', c', rfl, _, _⟩ := ((r1.bytes (G' := fun _ => False)).toRd ok8 (F := fun k => w4.heap.size + 1 ≤ k) (fun _ hk => hk) (fun _ h => h.elim)).shape
            obtain ⟨n', hn'⟩ : ∃ n', (xs ++ [hexB c d]).length = n' := ⟨_, rfl⟩
            rw [hn'] at r1 ⊢
            clear hn' r3 r4
            have hal := below_alloc wa (.cells #[.int .u8 (((hexB c d).toNat : Nat) : Int)] 5)
            have hb' := (hal.mono hsa).trans r2
            have hD2 := HDa.out.keep hb' (Nat.lt_succ_self _)
            have hZ2 := HZa.out.keep hb' (by omega)
            have hR2 := okRVL.below HRa.out hb' fun k hk _ => Nat.lt_succ_of_lt hk
            have hB2 := HBa.out.trans (hb'.mono (by omega))
            obtain ⟨⟨y0, y1, y2, y3⟩, x0, x1, x2, x3⟩ := hD2.eight
            have hD3 : BoxAt (w'.setCell ⟨w4.heap.size, 3, none⟩ (.slice A' n' c')) w4.heap.size 24 [.int .i64 1, .int .i64 n1, .int .i64 0, .slice A' n' c'] := hD2.set_ 3 (.slice A' n' c')
            have hZ3 := hZ2.far (b' := w4.heap.size) (j := 3) (v := .slice A' n' c') hBD
            have hR3 := okRVL.setc hR2 (b := w4.heap.size) (j := 3) (v := .slice A' n' c') fun k hk => Nat.ne_of_lt hk
            have hB3 := hB2.setCell (p := ⟨w4.heap.size, 3, none⟩) (by show w.heap.size ≤ w4.heap.size; omega) (.slice A' n' c')
            have hU3 := ((r1.bytes (G' := fun _ => False)).setc ok8 (b := w4.heap.size) (j := 3) (v := .slice A' n' c') (fun k hk => by have := (r1.blk k hk).1; omega) (fun _ h => h.elim)).bytes (G' := fun _ => True)
            have HF := Lib.hid (And.intro hD3 (And.intro hU3 (And.intro hZ3 (And.intro hR3 hB3))))
            clear r1 r2 hal hb' hD2 hZ2 hR2 hB2 hD3 hZ3 hR3 hB3 hU3
            have r9 : IntKind.i64.wrap ((q : Int) + 2) = (q : Int) + 2 := by have := HQ2.out.1; push_cast at this; exact this
            go_wp2
            go_roundw
            case rel => exact ⟨j + 1, q + 2, false, xs ++ [hexB c d], .slice A' n' c', rfl, by rw [Int.natCast_add]; rfl, HQL.out.2, ⟨by have := HXL.out.1; omega, by rw [List.length_append, HXL.out.2]; rfl⟩, (fun h => by cases h), fun _ => HNX.out, HF.out.1, HF.out.2.1, HF.out.2.2.1, HF.out.2.2.2.1, HF.out.2.2.2.2⟩
            case measure => exact meas_two HQL.out.1
  · skip
    by_cases h3 : ps.length = 3
    rotate_left
    · have HF : Hid (parseP s.data.toList = (zeroD, 2)) := Lib.hid (by rw [hPP]; exact piece_form (by rw [hk0, hK]; decide) (by rw [List.length_map]; exact h3))
      rw [hK] at r3
      have HEnd := Lib.hid (hEnd0 (.cells #[.int .i64 2, .int .i64 0, .int .i64 0, .slice none 0 0] 24))
      have hne : ((ps.length : Int) != 3) = true := by rw [bne_iff_ne]; omega
      clear hPP hk0 hK hlen hpl h3 hEnd0
      go_wp2_with fail
      clear r1 r2 r3 hmm hc04 z0 z1 z2 z3 f0 f1 f2 f3
      generalize ((((w4.setCell ⟨w.heap.size, 0, none⟩ (.int .i64 0)).setCell ⟨w.heap.size, 1, none⟩ (.int .i64 0)).setCell ⟨w.heap.size, 2, none⟩ (.int .i64 0)).setCell ⟨w.heap.size, 3, none⟩ (.slice none 0 0)).alloc (.cells #[.int .i64 2, .int .i64 0, .int .i64 0, .slice none 0 0] 24) = wF at *
      obtain ⟨r0, r1, c0, c1, c2, c3⟩ := HEnd.out
      exact bodyPost_ret (v := .tuple #[.agg #[.int .i64 0, .int .i64 0, .int .i64 0, .slice none 0 0], .int .i64 2]) (by simp [results, Tryd.results9, go_sem, c0, c1, c2, c3]) rfl (by rw [HF.out]; exact ⟨_, rfl, r0, r1⟩)
    obtain ⟨q0, p1, p2, rfl⟩ : ∃ a b c, ps = [a, b, c] := by
      match ps, h3 with
      | [a, b, c], _ => exact ⟨a, b, c, rfl⟩
    obtain rfl : q0 = p0 := Option.some.inj HP0.out
    have HS1 := Lib.hid (hpl p1 (by simp))
    have HS2 := Lib.hid (hpl p2 (by simp))
    obtain ⟨u1, hc1, hu1⟩ := RdL_q HR4.out (k := 1) (x := .string p1) rfl
    obtain rfl : u1 = .string p1 := hu1.1
    obtain ⟨u2, hc2, hu2⟩ := RdL_q HR4.out (k := 2) (x := .string p2) rfl
    obtain rfl : u2 = .string p2 := hu2.1
    rw [Nat.zero_add] at hc1 hc2
    have HC2 := Lib.hid hc2
    rw [hK] at r3 HW5 HD5
    have HPP : Hid (parseP s.data.toList = pieceP [q0.data.toList, p1.data.toList, p2.data.toList]) := Lib.hid hPP
    have HK := Lib.hid hK
    clear hPP hk0 hK hlen hpl h3 hu1 hu2 hc2 hEnd0
    go_wp2_with fail
    rw [HW5.out]
    clear HW5 r1 r2 r3 hmm hc1 hc04 z0 z1 z2 z3 f0 f1 f2 f3
    refine (text_number p1 (by have := HS1.out; omega) w5 HV5.out).mono ?_
    rintro e w6 ⟨rfl, hb6⟩
    have HZ6 := Lib.hid (HZ5.out.grow hb6)
    have HB6 := Lib.hid (HB5.out.trans (hb6.mono HB5.out.size))
    have HV6 := Lib.hid (HV5.out.grow hb6)
    have HD6 := Lib.hid (HD5.out.grow hb6)
    have HR6 := Lib.hid (okRVL.mono (okRVL.grow (okRVL.grow (okRVL.lt HR4.out) hal5.out) hb6) (F' := fun k => k < w4.heap.size) fun k hk => hk.2)
    clear hb6 HZ5 HB5 HV5 HD5 HC2 HR5
    generalize hn1 : (numP p1.data.toList).1 = n1 at *
    generalize ho1 : (numP p1.data.toList).2 = ok1 at *
    obtain ⟨d8, g8⟩ := HD6.out.eight
    obtain ⟨d0, d1, d2, d3⟩ := d8
    obtain ⟨g0, g1, g2, g3⟩ := g8
    have hBD : w.heap.size ≠ w4.heap.size := by omega
    have hD7 : BoxAt (w6.setCell ⟨w4.heap.size, 1, none⟩ (.int .i64 n1)) w4.heap.size 24 [.int .i64 2, .int .i64 n1, .int .i64 0, .slice none 0 0] := HD6.out.set_ 1 (.int .i64 n1)
    have hZ7 := HZ6.out.far (b' := w4.heap.size) (j := 1) (v := .int .i64 n1) hBD
    have hB7 := HB6.out.setCell (p := ⟨w4.heap.size, 1, none⟩) (by show w.heap.size ≤ w4.heap.size; omega) (.int .i64 n1)
    have hR7 := okRVL.setc HR6.out (b := w4.heap.size) (j := 1) (v := .int .i64 n1) fun k hk => Nat.ne_of_lt hk
    obtain ⟨w7, hw7⟩ : ∃ x, w6.setCell ⟨w4.heap.size, 1, none⟩ (.int .i64 n1) = x := ⟨_, rfl⟩
    rw [hw7] at hD7 hZ7 hB7 hR7
    have HD7 := Lib.hid hD7
    have HZ7 := Lib.hid hZ7
    have HB7 := Lib.hid hB7
    have HR7 := Lib.hid hR7
    have HV7 := Lib.hid (HV0.out.grow hB7)
    obtain ⟨u2, hc2, hu2⟩ := RdL_q hR7 (k := 2) (x := .string p2) rfl
    obtain rfl : u2 = .string p2 := hu2.1
    rw [Nat.zero_add] at hc2
    have e8 := HD7.out.eight
    obtain ⟨⟨m0, m1, m2, m3⟩, mf⟩ := e8
    clear hD7 hZ7 hB7 hR7 hu2 mf HD6 HZ6 HB6 HR6 HV6
    go_wp2_with fail
    clear hw7 hc2 m0 m1 m2 m3 d0 d1 d2 d3 g0 g1 g2 g3
    refine (text_number p2 (by have := HS2.out; omega) w7 HV7.out).mono ?_
    rintro e w8 ⟨rfl, hb8⟩
    have HD8 := Lib.hid (HD7.out.grow hb8)
    have HZ8 := Lib.hid (HZ7.out.grow hb8)
    have HB8 := Lib.hid (HB7.out.trans (hb8.mono HB7.out.size))
    have HPS : Hid (parseP s.data.toList = endP ⟨2, n1, (numP p2.data.toList).1, []⟩ (ok1 && (numP p2.data.toList).2)) := Lib.hid (by rw [HPP.out, piece_swap HK.out, hn1, ho1])
    clear hb8 HD7 HZ7 HB7 HR7 HV7 HPP HK hn1 ho1
    generalize (numP p2.data.toList).1 = n2 at *
    generalize (numP p2.data.toList).2 = ok2 at *
    obtain ⟨⟨d0, d1, d2, d3⟩, g0, g1, g2, g3⟩ := HD8.out.eight
    have hD9 : BoxAt (w8.setCell ⟨w4.heap.size, 2, none⟩ (.int .i64 n2)) w4.heap.size 24 [.int .i64 2, .int .i64 n1, .int .i64 n2, .slice none 0 0] := HD8.out.set_ 2 (.int .i64 n2)
    have hZ9 := HZ8.out.far (b' := w4.heap.size) (j := 2) (v := .int .i64 n2) hBD
    have hB9 := HB8.out.setCell (p := ⟨w4.heap.size, 2, none⟩) (by show w.heap.size ≤ w4.heap.size; omega) (.int .i64 n2)
    obtain ⟨w9, hw9⟩ : ∃ x, w8.setCell ⟨w4.heap.size, 2, none⟩ (.int .i64 n2) = x := ⟨_, rfl⟩
    rw [hw9] at hD9 hZ9 hB9
    have HD9 := Lib.hid hD9
    have HZ9 := Lib.hid hZ9
    have HB9 := Lib.hid hB9
    obtain ⟨m0, m1, m2, m3⟩ := hD9.four
    clear hD9 hZ9 hB9 HD8 HZ8 HB8
    cases hok : (ok1 && ok2)
    · have HE : Hid (parseP s.data.toList = (zeroD, 2)) := Lib.hid (by rw [HPS.out, hok]; rfl)
      have hbad : ok1 = false ∨ ok1 = true ∧ ok2 = false := by cases ok1 <;> simp_all
      clear hok HPS
      rcases hbad with rfl | ⟨rfl, rfl⟩
      · skip
        have HEnd := Lib.hid (no_end HZ9.out rfl HB9.out)
        obtain ⟨⟨z0, z1, z2, z3⟩, f0, f1, f2, f3⟩ := HZ9.out.eight
        go_wp2_with fail
        clear z0 z1 z2 z3 f0 f1 f2 f3
        have HEnd' : Hid (Ends w (((((w9.setCell ⟨w.heap.size, 0, none⟩ (.int .i64 0)).setCell ⟨w.heap.size, 1, none⟩ (.int .i64 0)).setCell ⟨w.heap.size, 2, none⟩ (.int .i64 0)).setCell ⟨w.heap.size, 3, none⟩ (.slice none 0 0))) (zeroD) (0) (0) (0) (.slice none 0 0)) := HEnd
        clear HEnd
        generalize ((((w9.setCell ⟨w.heap.size, 0, none⟩ (.int .i64 0)).setCell ⟨w.heap.size, 1, none⟩ (.int .i64 0)).setCell ⟨w.heap.size, 2, none⟩ (.int .i64 0)).setCell ⟨w.heap.size, 3, none⟩ (.slice none 0 0)) = wF at *
        obtain ⟨r0, r1, c0, c1, c2, c3⟩ := HEnd'.out
        exact bodyPost_ret (v := .tuple #[.agg #[.int .i64 (0), .int .i64 (0), .int .i64 (0), .slice none 0 0], .int .i64 (2)]) (by simp [results, Tryd.results9, go_sem, c0, c1, c2, c3]) rfl (by rw [HE.out]; exact ⟨_, rfl, r0, r1⟩)
      · skip
        have HEnd := Lib.hid (no_end HZ9.out rfl HB9.out)
        obtain ⟨⟨z0, z1, z2, z3⟩, f0, f1, f2, f3⟩ := HZ9.out.eight
        go_wp2_with fail
        clear z0 z1 z2 z3 f0 f1 f2 f3
        have HEnd' : Hid (Ends w (((((w9.setCell ⟨w.heap.size, 0, none⟩ (.int .i64 0)).setCell ⟨w.heap.size, 1, none⟩ (.int .i64 0)).setCell ⟨w.heap.size, 2, none⟩ (.int .i64 0)).setCell ⟨w.heap.size, 3, none⟩ (.slice none 0 0))) (zeroD) (0) (0) (0) (.slice none 0 0)) := HEnd
        clear HEnd
        generalize ((((w9.setCell ⟨w.heap.size, 0, none⟩ (.int .i64 0)).setCell ⟨w.heap.size, 1, none⟩ (.int .i64 0)).setCell ⟨w.heap.size, 2, none⟩ (.int .i64 0)).setCell ⟨w.heap.size, 3, none⟩ (.slice none 0 0)) = wF at *
        obtain ⟨r0, r1, c0, c1, c2, c3⟩ := HEnd'.out
        exact bodyPost_ret (v := .tuple #[.agg #[.int .i64 (0), .int .i64 (0), .int .i64 (0), .slice none 0 0], .int .i64 (2)]) (by simp [results, Tryd.results9, go_sem, c0, c1, c2, c3]) rfl (by rw [HE.out]; exact ⟨_, rfl, r0, r1⟩)
    obtain ⟨rfl, rfl⟩ : ok1 = true ∧ ok2 = true := by cases ok1 <;> cases ok2 <;> simp_all
    have HPE := HPS
    clear hok HPS
    go_wp2_with fail
    clear hw9 d0 d1 d2 d3 g0 g1 g2 g3 m0 m1 m2 m3
    refine (model_Wrong ⟨2, n1, n2, []⟩ _ (fun _ => False) w9 ⟨_, rfl, RdL.nil_ _ _ _ _ _ (by decide)⟩).mono ?_
    rintro e w10 ⟨rfl, hb10⟩
    have HD10 := Lib.hid (HD9.out.grow hb10)
    have HZ10 := Lib.hid (HZ9.out.grow hb10)
    have HB10 := Lib.hid (HB9.out.trans (hb10.mono HB9.out.size))
    clear hb10 HD9 HZ9 HB9
    obtain ⟨m0, m1, m2, m3⟩ := HD10.out.four
    by_cases hr : wrongI ⟨2, n1, n2, []⟩ = 0
    · have HE : Hid (parseP s.data.toList = (⟨2, n1, n2, []⟩, 0)) := Lib.hid (by rw [HPE.out]; unfold endP; rw [if_neg (by decide), if_neg (by simpa using hr)])
      rw [hr]
      clear hr HPE
      have HEnd := Lib.hid (put_end ⟨2, n1, n2, []⟩ (.slice none 0 0) HZ10.out rfl HB10.out (F := fun _ => False) (RdL.nil_ _ _ _ _ _ (by decide)) (fun _ h => h.elim))
      obtain ⟨⟨z0, z1, z2, z3⟩, f0, f1, f2, f3⟩ := HZ10.out.eight
      go_wp2_with fail
      clear z0 z1 z2 z3 f0 f1 f2 f3
      have HEnd' : Hid (Ends w (((((w10.setCell ⟨w.heap.size, 0, none⟩ (.int .i64 2)).setCell ⟨w.heap.size, 1, none⟩ (.int .i64 n1)).setCell ⟨w.heap.size, 2, none⟩ (.int .i64 n2)).setCell ⟨w.heap.size, 3, none⟩ (.slice none 0 0))) (⟨2, n1, n2, []⟩) (2) (n1) (n2) (.slice none 0 0)) := HEnd
      clear HEnd
      generalize ((((w10.setCell ⟨w.heap.size, 0, none⟩ (.int .i64 2)).setCell ⟨w.heap.size, 1, none⟩ (.int .i64 n1)).setCell ⟨w.heap.size, 2, none⟩ (.int .i64 n2)).setCell ⟨w.heap.size, 3, none⟩ (.slice none 0 0)) = wF at *
      obtain ⟨r0, r1, c0, c1, c2, c3⟩ := HEnd'.out
      exact bodyPost_ret (v := .tuple #[.agg #[.int .i64 (2), .int .i64 (n1), .int .i64 (n2), .slice none 0 0], .int .i64 (0)]) (by simp [results, Tryd.results9, go_sem, c0, c1, c2, c3]) rfl (by rw [HE.out]; exact ⟨_, rfl, r0, r1⟩)
    · have HE : Hid (parseP s.data.toList = (zeroD, wrongI ⟨2, n1, n2, []⟩)) := Lib.hid (by rw [HPE.out]; unfold endP; rw [if_neg (by decide), if_pos (by simpa using hr)])
      have hne : (wrongI ⟨2, n1, n2, []⟩ != 0) = true := by simpa using hr
      generalize wrongI ⟨2, n1, n2, []⟩ = er at *
      clear hr HPE
      have HEnd := Lib.hid (no_end HZ10.out rfl HB10.out)
      obtain ⟨⟨z0, z1, z2, z3⟩, f0, f1, f2, f3⟩ := HZ10.out.eight
      go_wp2_with fail
      clear z0 z1 z2 z3 f0 f1 f2 f3
      have HEnd' : Hid (Ends w (((((w10.setCell ⟨w.heap.size, 0, none⟩ (.int .i64 0)).setCell ⟨w.heap.size, 1, none⟩ (.int .i64 0)).setCell ⟨w.heap.size, 2, none⟩ (.int .i64 0)).setCell ⟨w.heap.size, 3, none⟩ (.slice none 0 0))) (zeroD) (0) (0) (0) (.slice none 0 0)) := HEnd
      clear HEnd
      generalize ((((w10.setCell ⟨w.heap.size, 0, none⟩ (.int .i64 0)).setCell ⟨w.heap.size, 1, none⟩ (.int .i64 0)).setCell ⟨w.heap.size, 2, none⟩ (.int .i64 0)).setCell ⟨w.heap.size, 3, none⟩ (.slice none 0 0)) = wF at *
      obtain ⟨r0, r1, c0, c1, c2, c3⟩ := HEnd'.out
      exact bodyPost_ret (v := .tuple #[.agg #[.int .i64 (0), .int .i64 (0), .int .i64 (0), .slice none 0 0], .int .i64 (er)]) (by simp [results, Tryd.results9, go_sem, c0, c1, c2, c3]) rfl (by rw [HE.out]; exact ⟨_, rfl, r0, r1⟩)
end Go.Proofs.YtdcmbdghnkgghaaDoor

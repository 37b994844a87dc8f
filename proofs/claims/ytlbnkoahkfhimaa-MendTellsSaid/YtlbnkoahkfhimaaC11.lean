/- Chapter 10: what harm.Rot and harm.Gone compute. -/
import Derived.Test.YtlbnkoahkfhimaaC10
import Derived.Test.YtlbnkoahkfhimaaC9
import Derived.Test.YtlbnkoahkfhimaaC8d
namespace Go.Proofs.Ytlbnkoahkfhimaa
set_option linter.unusedVariables false
open Go Go.RowKit M
/-- One byte of one cell. -/
theorem disks_byte {w : World} {F : Fp} {g c : Nat} {D : List (List Bs)} (h : DISKS w F (.slice (some ⟨g, 0, none⟩) 4 c) D) (hs : Shape D) {d s n : Nat} (hd : d < 4) (hs3 : s < 3) (hn : n < (cellAt D d s).length) :
    ∃ g1 c1 g2 c2, w.cell? ⟨g, d, none⟩ = some (.slice (some ⟨g1, 0, none⟩) 3 c1) ∧ 3 ≤ c1 ∧ c1 ≤ maxLen ∧ w.cell? ⟨g1, s, none⟩ = some (.slice (some ⟨g2, 0, none⟩) (cellAt D d s).length c2) ∧ (cellAt D d s).length ≤ c2 ∧ c2 ≤ maxLen ∧
      w.cell? ⟨g2, n, none⟩ = some (.int .u8 (at8 (cellAt D d s) n)) ∧ w.frozen? ⟨g2, n, none⟩ = false ∧ F g2 ∧
      ∀ y : UInt8, DISKS (w.setCell ⟨g2, n, none⟩ (.int .u8 (y.toNat : Int))) F (.slice (some ⟨g, 0, none⟩) 4 c) (setA D d s ((cellAt D d s).set n y)) := by
  obtain ⟨r, hr, hrl, hrs, _⟩ := hs.cell hd hs3
  have hdl : d < D.length := by rw [hs.1]; exact hd
  have her : D[d] = r := (List.getElem?_eq_some_iff.1 hr).2
  obtain ⟨u1, f1, a1, a2, a3, a4, a5⟩ := h.inner okROW hdl
  rw [her] at a3
  obtain ⟨g1, c1, rfl, _, _, hc1, hc1m⟩ := a3.form (by omega)
  rw [hrl] at a1 a3 a5 hc1
  have hsl : s < r.length := by omega
  have hes : r[s] = cellAt D d s := (List.getElem?_eq_some_iff.1 hrs).2
  obtain ⟨u2, f2, b1, b2, b3, b4, b5⟩ := a3.inner okCELL hsl
  rw [hes] at b3
  obtain ⟨g2, c2, rfl, _, _, hc2, hc2m⟩ := b3.1.form (by omega)
  obtain ⟨u3, e1, e2, e3⟩ := b3.1.at_ hn
  have hg2 : f2 g2 := b3.2 g2 rfl
  have hu3 : u3 = .int .u8 (at8 (cellAt D d s) n) := by rw [at8_get hn]; exact e3
  subst hu3
  refine ⟨g1, c1, g2, c2, a1, hc1, hc1m, b1, hc2, hc2m, e1, e2, (a4 g2 (b4 g2 hg2).1).1, fun y => ?_⟩
  have hset : CELL (w.setCell ⟨g2, n, none⟩ (.int .u8 (y.toNat : Int))) f2 (.slice (some ⟨g2, 0, none⟩) (cellAt D d s).length c2) ((cellAt D d s).set n y) := ⟨b3.1.set_ ok8 hn rfl, b3.2⟩
  have hrow := b5 (w.setCell ⟨g2, n, none⟩ (.int .u8 (y.toNat : Int))) f2 ((cellAt D d s).set n y) (fun k _ hk _ => Below.heap_setCell w ⟨g2, n, none⟩ _ k fun e => hk (e ▸ hg2)) hset (fun k hk => ⟨.inl hk, by rw [setCell_size]; exact (b4 k hk).2.2⟩)
  have hrow' : ROW (w.setCell ⟨g2, n, none⟩ (.int .u8 (y.toNat : Int))) f1 (.slice (some ⟨g1, 0, none⟩) 3 c1) (r.set s ((cellAt D d s).set n y)) := okROW.mono hrow fun k hk => hk.elim id fun h => (b4 k h).1
  have htop := a5 (w.setCell ⟨g2, n, none⟩ (.int .u8 (y.toNat : Int))) f1 (r.set s ((cellAt D d s).set n y)) (fun k _ hk _ => Below.heap_setCell w ⟨g2, n, none⟩ _ k fun e => hk (e ▸ (b4 g2 hg2).1)) hrow' (fun k hk => ⟨.inl hk, by rw [setCell_size]; exact (a4 k hk).2.2⟩)
  have e5 : setA D d s ((cellAt D d s).set n y) = D.set d (r.set s ((cellAt D d s).set n y)) := by
    unfold setA
    rw [show D.getD d [] = r by simp [List.getD, hr]]
  rw [e5]
  exact okDISKS.mono htop fun k hk => hk.elim id fun h => (a4 k h).1
theorem xor_bits (b : Bs) (n : Nat) : bits BinOp.xor .u8 (at8 b n) 1 = ((b.getD n 0 ^^^ 1).toNat : Int) := by
  unfold at8
  have h := (b.getD n 0).toNat_lt
  rw [UInt8.toNat_xor]
  generalize (b.getD n 0).toNat = m at *
  revert m
  decide +kernel
theorem mk3BB (w : World) : (Instr.makeSlice 22 (.int .i64 3) (.int .i64 3)).run Try.prog w = .ok (.slice (some ⟨w.heap.size, 0, none⟩) 3 3) (w.alloc (.cells #[.slice none 0 0, .slice none 0 0, .slice none 0 0] 23)) := by kernel_rfl
theorem row_nil (w : World) : ROW (w.alloc (.cells #[.slice none 0 0, .slice none 0 0, .slice none 0 0] 23)) (fun k => w.heap.size ≤ k) (.slice (some ⟨w.heap.size, 0, none⟩) 3 3) [[], [], []] := by
  have hnil : ∀ (w : World) F, CELL w F (.slice none 0 0) [] := fun w F => ⟨Bld.nil_ _ _ _ _ _, fun k hk => by simp [Value.ownBlock] at hk⟩
  refine ⟨[fun _ => False, fun _ => False, fun _ => False], rfl, fun i j f g hi hj hij k hf => ?_, OwnV.of (Bld.lit (okG okCELL) (us := [.slice none 0 0, .slice none 0 0, .slice none 0 0]) (base := w.heap.size) (G := fun _ => False) 23 (Nat.le_refl _) rfl (by decide) fun j u x hu hx => ?_) (okG okCELL) (fun k hk => hk) (fun k hk => hk.elim)⟩
  · have := List.mem_of_getElem? hi
    simp at this
    rw [this] at hf
    exact hf.elim
  · match j with
    | 0 => simp at hu hx; subst hu; subst hx; exact ⟨hnil _ _, fun k hk => hk.elim⟩
    | 1 => simp at hu hx; subst hu; subst hx; exact ⟨hnil _ _, fun k hk => hk.elim⟩
    | 2 => simp at hu hx; subst hu; subst hx; exact ⟨hnil _ _, fun k hk => hk.elim⟩
    | j + 3 => simp at hu
set_option maxRecDepth 100000 in
set_option maxHeartbeats 1600000 in
theorem harm_Rot (a : Arr) (d s n : Int) (v : Value) (F : Fp) (w : World) (h : RdA w F v a) (hsh : Shape a.disks) (hno : a.ints = []) :
    Calls Try.prog 37 #[v, .int .i64 d, .int .i64 s, .int .i64 n] w fun e w' => ∃ v', e = .returned (.tuple #[v', .int .i64 (rotA a d s n).2]) ∧ RdA w' (fun k => w.heap.size ≤ k) v' (rotA a d s n).1 ∧ Below w.heap.size w w' := by
  obtain ⟨b0, o0, c0, Ai, ci, rfl, hD, hI, hc0, hc1⟩ := RdA_open h hsh
  obtain ⟨hA, hZ, hB, hsz⟩ := two_boxes w (.slice (some ⟨b0, o0, none⟩) 4 c0) (.slice Ai a.ints.length ci) 41
  have hAr : RdA _ (fun k => F k ∧ k < w.heap.size) (.agg #[.slice (some ⟨b0, o0, none⟩) 4 c0, .slice Ai a.ints.length ci]) a := ⟨_, _, rfl, okBBB.grow hD hB, okIs.grow hI hB⟩
  have HSZ := Lib.hid hsz
  have HS := Lib.hid hsh
  have HNO := Lib.hid hno
  obtain ⟨x0, x1, x2, x3⟩ := hA.two
  have HD := Lib.hid hD
  clear h hI hsz hsh hno hD
  go_enter Try.func37, Try.ntmps37
  go_wp2_with fail
  generalize (w.alloc (.cells #[.slice (some ⟨b0, o0, none⟩) 4 c0, .slice Ai a.ints.length ci] 41)).alloc (.cells #[.slice none 0 0, .slice none 0 0] 41) = w1 at *
  refine (array_Own0 a _ _ _ hAr HS.out HNO.out).mono ?_
  rintro e w2 ⟨dv, rfl, hO, hb2⟩
  rw [HSZ.out] at hO
  obtain ⟨g, cg, rfl, hg0, hg1, hcg, hcgm⟩ := hO.form (by rw [HS.out.1]; decide)
  rw [HS.out.1] at hO hcg ⊢
  unfold maxLen at hcgm
  have hal := below_alloc w2 (.cells #[.slice (some ⟨g, 0, none⟩) 4 cg, .slice none 0 0] 41)
  have hX := boxAt_new w2 41 [.slice (some ⟨g, 0, none⟩) 4 cg, .slice none 0 0]
  have hO3 := okDISKS.grow (okDISKS.lt hO) hal
  have hb3 := hb2.trans (hal.mono hb2.size)
  have hA3 := hA.grow hb3
  have hZ3 := hZ.grow hb3
  have hB3 := hB.trans (hb3.mono hB.size)
  have hsz2 : w.heap.size + 2 ≤ w2.heap.size := by have := hb2.size; have := HSZ.out; omega
  have HA0 := Lib.hid (And.intro hA3 (And.intro hZ3 (And.intro hB3 (And.intro hX (And.intro hO3 (okBBB.grow HD.out hB3))))))
  clear x0 x1 x2 x3 hal hb3 hA3 hZ3 hB3 hX hO3 hO hb2 hA hZ hB hAr hg0 hg1
  go_wp2_with fail
  change Hid (_ ∧ _ ∧ _ ∧ BoxAt (w2.alloc (.cells #[.slice (some ⟨g, 0, none⟩) 4 cg, .slice none 0 0] 41)) _ _ _ ∧ _ ∧ _) at HA0
  generalize w2.alloc (.cells #[.slice (some ⟨g, 0, none⟩) 4 cg, .slice none 0 0] 41) = w3 at *
  generalize w2.heap.size = BO at *
  obtain ⟨hA3, hZ3, hB3, hX, hO3, hD3⟩ := HA0.out
  have HA := Lib.hid (And.intro hA3 (And.intro hZ3 (And.intro hB3 (And.intro hX hO3))))
  clear hA3 hZ3 hB3 hX hO3 HA0
  refine (cell_There d s _).mono ?_
  rintro e w4 ⟨rfl, hw4⟩
  subst hw4
  obtain ⟨x0, x1, x2, x3⟩ := HA.out.1.two
  obtain ⟨z0, z1, z2, z3⟩ := HA.out.2.1.two
  obtain ⟨y0, y1, y2, y3⟩ := HA.out.2.2.2.1.two
  have hrd : RdA w3 (fun k => w.heap.size + 2 ≤ k ∧ k < BO) (.agg #[.slice (some ⟨g, 0, none⟩) 4 cg, .slice none 0 0]) a := ⟨_, _, rfl, disks_rd HA.out.2.2.2.2, by rw [HNO.out]; exact RdIs.nil_ _ _ _ _ (by decide)⟩
  have HRET := Lib.hid (ret_box (F' := fun k => w.heap.size ≤ k) HA.out.2.1 HA.out.2.2.1 (by omega) hrd (fun k hk => by omega) fun k hk => by omega)
  clear hrd
  by_cases hno : thereB d s = false ∨ n < 0
  · have HP := Lib.hid (rot_no_ (a := a) (d := d) (s := s) (n := n) (by rcases hno with h | h; exact .inl h; exact .inr (.inl h)))
    by_cases ht : thereB d s = true
    · have hn : n < 0 := by rcases hno with h | h; rw [ht] at h; cases h; exact h
      rw [ht]
      clear hno
      go_wp2_with fail
      exact bodyPost_ret (v := .tuple #[.agg #[.slice (some ⟨g, 0, none⟩) 4 cg, .slice none 0 0], .int .i64 6]) (by simp [results, Try.results37, go_sem, *]) rfl (by rw [HP.out]; exact ⟨_, rfl, HRET.out.1, HRET.out.2⟩)
    · have ht' : thereB d s = false := by simpa using ht
      rw [ht']
      clear hno
      go_wp2_with fail
      exact bodyPost_ret (v := .tuple #[.agg #[.slice (some ⟨g, 0, none⟩) 4 cg, .slice none 0 0], .int .i64 6]) (by simp [results, Try.results37, go_sem, *]) rfl (by rw [HP.out]; exact ⟨_, rfl, HRET.out.1, HRET.out.2⟩)
  simp only [not_or, Bool.not_eq_false] at hno
  obtain ⟨ht, hn0⟩ := hno
  obtain ⟨t1, t2, t3, t4⟩ := thereB_iff.1 ht
  obtain ⟨d, rfl⟩ := Int.eq_ofNat_of_zero_le t1
  obtain ⟨s, rfl⟩ := Int.eq_ofNat_of_zero_le t3
  obtain ⟨n, rfl⟩ := Int.eq_ofNat_of_zero_le (show 0 ≤ n by omega)
  have hd4 : d < 4 := by omega
  have hs3 : s < 3 := by omega
  obtain ⟨b1, o1, c1, A2, c2, hu1, hd1, hd2, hu2, hR2⟩ := disks_cell hD3 HS.out hd4 hs3
  unfold maxLen at hd2
  have hn0' : decide ((n : Int) < 0) = false := by simp
  rw [ht]
  by_cases hn : n < (cellAt a.disks d s).length
  rotate_left
  · have HP := Lib.hid (rot_no_ (a := a) (d := (d : Int)) (s := (s : Int)) (n := (n : Int)) (.inr (.inr (by simp only [Int.toNat_natCast]; omega))))
    have hle : decide ((cellAt a.disks d s).length ≤ n) = true := by simp; omega
    clear hR2 hD3 ht t1 t2 t3 t4 hn0 hn
    go_wp2_with fail
    exact bodyPost_ret (v := .tuple #[.agg #[.slice (some ⟨g, 0, none⟩) 4 cg, .slice none 0 0], .int .i64 6]) (by simp [results, Try.results37, go_sem, *]) rfl (by rw [HP.out]; exact ⟨_, rfl, HRET.out.1, HRET.out.2⟩)
  have HP := Lib.hid (rot_yes (a := a) hd4 hs3 hn)
  have hle : decide ((cellAt a.disks d s).length ≤ n) = false := by simp; omega
  obtain ⟨g1, k1, g2, k2, p1, p2, p3, p4, p5, p6, p7, p8, p9, p10⟩ := disks_byte HA.out.2.2.2.2 HS.out hd4 hs3 hn
  have hx1 := at8_lo (cellAt a.disks d s) n
  have hx2 := at8_hi (cellAt a.disks d s) n
  obtain ⟨cl, hcl⟩ : ∃ cl, cellAt a.disks d s = cl := ⟨_, rfl⟩
  rw [hcl] at p4 p5 p7 p10 hx1 hx2 hu2 hn hle HP
  clear z0 z1 z2 z3
  unfold maxLen at p3 p6
  have hbyte : bits BinOp.xor .u8 (at8 cl n) 1 = ((cl.getD n 0 ^^^ 1).toNat : Int) := xor_bits cl n
  have hD5 := p10 (cl.getD n 0 ^^^ 1)
  rw [← hbyte] at hD5
  have hX5 := HA.out.2.2.2.1.far (b' := g2) (j := n) (v := .int .u8 (bits BinOp.xor .u8 (at8 cl n) 1)) (by omega)
  have hZ5 := HA.out.2.1.far (b' := g2) (j := n) (v := .int .u8 (bits BinOp.xor .u8 (at8 cl n) 1)) (by omega)
  have hB5 := HA.out.2.2.1.setCell (p := ⟨g2, n, none⟩) (by show w.heap.size ≤ g2; omega) (.int .u8 (bits BinOp.xor .u8 (at8 cl n) 1))
  obtain ⟨w5, hw5⟩ : ∃ x, w3.setCell ⟨g2, n, none⟩ (.int .u8 (bits BinOp.xor .u8 (at8 cl n) 1)) = x := ⟨_, rfl⟩
  rw [hw5] at hD5 hX5 hZ5 hB5
  have hrd : RdA w5 (fun k => w.heap.size + 2 ≤ k ∧ k < BO) (.agg #[.slice (some ⟨g, 0, none⟩) 4 cg, .slice none 0 0]) ⟨setA a.disks d s (cl.set n (cl.getD n 0 ^^^ 1)), a.ints⟩ := ⟨_, _, rfl, disks_rd hD5, by show RdIs _ _ _ a.ints; rw [HNO.out]; exact RdIs.nil_ _ _ _ _ (by decide)⟩
  have HR5 := Lib.hid (ret_box (F' := fun k => w.heap.size ≤ k) hZ5 hB5 (by omega) hrd (fun k hk => by omega) fun k hk => by omega)
  obtain ⟨z0, z1, z2, z3⟩ := hZ5.two
  obtain ⟨q0, q1, q2, q3⟩ := hX5.two
  clear hR2 hD3 ht t1 t2 t3 t4 hn0 p10 HRET hbyte hD5 hX5 hZ5 hB5 hrd
  go_wp2_with fail
  exact bodyPost_ret (v := .tuple #[.agg #[.slice (some ⟨g, 0, none⟩) 4 cg, .slice none 0 0], .int .i64 0]) (by simp [results, Try.results37, go_sem, *]) rfl (by rw [HP.out]; exact ⟨_, rfl, HR5.out.1, HR5.out.2⟩)
set_option maxRecDepth 100000 in
set_option maxHeartbeats 1600000 in
theorem harm_Gone (a : Arr) (d : Int) (v : Value) (F : Fp) (w : World) (h : RdA w F v a) (hsh : Shape a.disks) (hno : a.ints = []) :
    Calls Try.prog 40 #[v, .int .i64 d] w fun e w' => ∃ v', e = .returned (.tuple #[v', .int .i64 (goneA a d).2]) ∧ RdA w' (fun k => w.heap.size ≤ k) v' (goneA a d).1 ∧ Below w.heap.size w w' := by
  obtain ⟨b0, o0, c0, Ai, ci, rfl, hD, hI, hc0, hc1⟩ := RdA_open h hsh
  obtain ⟨hA, hZ, hB, hsz⟩ := two_boxes w (.slice (some ⟨b0, o0, none⟩) 4 c0) (.slice Ai a.ints.length ci) 41
  have hAr : RdA _ (fun k => F k ∧ k < w.heap.size) (.agg #[.slice (some ⟨b0, o0, none⟩) 4 c0, .slice Ai a.ints.length ci]) a := ⟨_, _, rfl, okBBB.grow hD hB, okIs.grow hI hB⟩
  have HSZ := Lib.hid hsz
  have HS := Lib.hid hsh
  have HNO := Lib.hid hno
  obtain ⟨x0, x1, x2, x3⟩ := hA.two
  have HD := Lib.hid hD
  clear h hI hsz hsh hno hD
  go_enter Try.func40, Try.ntmps40
  go_wp2_with fail
  generalize (w.alloc (.cells #[.slice (some ⟨b0, o0, none⟩) 4 c0, .slice Ai a.ints.length ci] 41)).alloc (.cells #[.slice none 0 0, .slice none 0 0] 41) = w1 at *
  refine (array_Own0 a _ _ _ hAr HS.out HNO.out).mono ?_
  rintro e w2 ⟨dv, rfl, hO, hb2⟩
  rw [HSZ.out] at hO
  obtain ⟨g, cg, rfl, hg0, hg1, hcg, hcgm⟩ := hO.form (by rw [HS.out.1]; decide)
  rw [HS.out.1] at hO hcg ⊢
  unfold maxLen at hcgm
  have hal := below_alloc w2 (.cells #[.slice (some ⟨g, 0, none⟩) 4 cg, .slice none 0 0] 41)
  have hX := boxAt_new w2 41 [.slice (some ⟨g, 0, none⟩) 4 cg, .slice none 0 0]
  have hO3 := okDISKS.grow (okDISKS.lt hO) hal
  have hb3 := hb2.trans (hal.mono hb2.size)
  have hA3 := hA.grow hb3
  have hZ3 := hZ.grow hb3
  have hB3 := hB.trans (hb3.mono hB.size)
  have hsz2 : w.heap.size + 2 ≤ w2.heap.size := by have := hb2.size; have := HSZ.out; omega
  have HA0 := Lib.hid (And.intro hA3 (And.intro hZ3 (And.intro hB3 (And.intro hX (And.intro hO3 (okBBB.grow HD.out hB3))))))
  clear x0 x1 x2 x3 hal hb3 hA3 hZ3 hB3 hX hO3 hO hb2 hA hZ hB hAr hg0 hg1
  go_wp2_with fail
  change Hid (_ ∧ _ ∧ _ ∧ BoxAt (w2.alloc (.cells #[.slice (some ⟨g, 0, none⟩) 4 cg, .slice none 0 0] 41)) _ _ _ ∧ _ ∧ _) at HA0
  generalize w2.alloc (.cells #[.slice (some ⟨g, 0, none⟩) 4 cg, .slice none 0 0] 41) = w3 at *
  generalize w2.heap.size = BO at *
  obtain ⟨hA3, hZ3, hB3, hX, hO3, hD3⟩ := HA0.out
  have HA := Lib.hid (And.intro hA3 (And.intro hZ3 (And.intro hB3 (And.intro hX hO3))))
  clear hA3 hZ3 hB3 hX hO3 HA0
  refine (cell_There d 0 _).mono ?_
  rintro e w4 ⟨rfl, hw4⟩
  subst hw4
  obtain ⟨z0, z1, z2, z3⟩ := HA.out.2.1.two
  obtain ⟨y0, y1, y2, y3⟩ := HA.out.2.2.2.1.two
  have hth : thereB d 0 = (decide (0 ≤ d) && decide (d < 4)) := by unfold thereB; simp
  by_cases hno : d < 0 ∨ 4 ≤ d
  · have HP := Lib.hid (gone_out (a := a) hno)
    have hrd : RdA w3 (fun k => w.heap.size + 2 ≤ k ∧ k < BO) (.agg #[.slice (some ⟨g, 0, none⟩) 4 cg, .slice none 0 0]) a := ⟨_, _, rfl, disks_rd HA.out.2.2.2.2, by rw [HNO.out]; exact RdIs.nil_ _ _ _ _ (by decide)⟩
    have HRET := Lib.hid (ret_box (F' := fun k => w.heap.size ≤ k) HA.out.2.1 HA.out.2.2.1 (by omega) hrd (fun k hk => by omega) fun k hk => by omega)
    have ht : thereB d 0 = false := by
      rw [hth]
      rcases hno with h | h
      · have : ¬ 0 ≤ d := by omega
        simp [this]
      · have : ¬ d < 4 := by omega
        simp [this]
    rw [ht]
    clear hno hrd hth hD3
    go_wp2_with fail
    exact bodyPost_ret (v := .tuple #[.agg #[.slice (some ⟨g, 0, none⟩) 4 cg, .slice none 0 0], .int .i64 6]) (by simp [results, Try.results40, go_sem, *]) rfl (by rw [HP.out]; exact ⟨_, rfl, HRET.out.1, HRET.out.2⟩)
  obtain ⟨d, rfl⟩ := Int.eq_ofNat_of_zero_le (show 0 ≤ d by omega)
  have hd4 : d < 4 := by omega
  have HP := Lib.hid (gone_in (a := a) hd4)
  have ht : thereB (d : Int) 0 = true := by rw [hth]; simp; omega
  rw [ht]
  have hdl : d < a.disks.length := by rw [HS.out.1]; exact hd4
  have hgF := (HA.out.2.2.2.2.blk g rfl).1
  obtain ⟨_, fd, hfz0, hfz, _⟩ := HA.out.2.2.2.2.inner okROW hdl
  have HFZ := Lib.hid hfz
  have hbase := HA.out.2.2.1.size
  clear hno hth ht hD3 z0 z1 z2 z3 y0 y1 y2 y3 hfz hfz0
  go_wp2_with fail
  refine region_three (w.heap.size) [Ck (.pointer (some ⟨BO, 0, none⟩)), Ck (.slice (some ⟨g, 0, none⟩) 4 cg), Ck (.int .i64 d), Ek 0 (Rg ROW w3.heap.size [[], [], []]), Ck (.pointer (some ⟨g, d, none⟩)), Tk] (fun m wx => (m = 0 → Below w3.heap.size w3 wx) ∧ (m = 1 → DISKS wx (fun q => w.heap.size + 2 ≤ q ∧ q ≠ BO) (.slice (some ⟨g, 0, none⟩) 4 cg) (a.disks.set d [[], [], []])) ∧ BoxAt wx (w.heap.size + 1) 41 [.slice none 0 0, .slice none 0 0] ∧ BoxAt wx BO 41 [.slice (some ⟨g, 0, none⟩) 4 cg, .slice none 0 0]) [5] (by kernel_rfl) (by kernel_rfl) (by kernel_rfl) (by kernel_rfl) (by kernel_rfl) ?_ ?_ (fun m w w' hb h => ⟨fun e => (h.1 e).trans (hb.mono (h.1 e).size), fun e => okDISKS.grow (h.2.1 e) hb, h.2.2.1.grow hb, h.2.2.2.grow hb⟩) (⟨fun _ => Below.refl _ _, fun h => absurd h (by decide), HA.out.2.1, HA.out.2.2.2.1⟩) ?_ ?_
  · first | exact Nat.le_refl _ | assumption | omega
  · repeat (first | exact trivial | refine ⟨mCk _, ?_⟩ | refine ⟨mTk, ?_⟩ | refine ⟨mEk _ (by first | exact mC _ | exact mT | exact mR okB _ | exact mR okBB _ | exact mR okBBB _ | exact mRn okB _ _ | exact mRn okBB _ _ | exact mOw _ _ _ _ | exact mRm okB _ _ _ | exact mRa _ _ | exact mRg okROW _ _ | exact mRg okROWS _ _ | exact mRf okDISKS _ _ | exact mRg okCELL _ _), ?_⟩ | refine ⟨mFk _ (by first | exact mC _ | exact mT | exact mR okB _ | exact mR okBB _ | exact mR okBBB _ | exact mRn okB _ _ | exact mRn okBB _ _ | exact mOw _ _ _ _ | exact mRm okB _ _ _ | exact mRa _ _ | exact mRg okROW _ _ | exact mRg okROWS _ _ | exact mRf okDISKS _ _ | exact mRg okCELL _ _), ?_⟩ | refine ⟨fun _ => (by first | exact mC _ | exact mT | exact mR okB _ | exact mR okBB _ | exact mR okBBB _ | exact mRn okB _ _ | exact mRn okBB _ _ | exact mOw _ _ _ _ | exact mRm okB _ _ _ | exact mRa _ _ | exact mRg okROW _ _ | exact mRg okROWS _ _ | exact mRf okDISKS _ _ | exact mRg okCELL _ _), ?_⟩)
  · simp only [StepsL3]
    refine ⟨?_, ?_, ?_, ?_, ?_, ?_, trivial⟩
    · refine @id (StepG _ _ _ _ _ _ _ _ _ _ _) ?_
      intro nst ys wx hn hmay hw hS hd
      intro K hK
      simp only [putL, Act.put, List.setIfInBounds_toArray, List.set_cons_zero, List.set_cons_succ, Nat.zero_add, Nat.reduceAdd] at hK ⊢
      rw [if_pos (by rfl)]
      go_simp
      exact hK _ _ (Below.refl _ _) rfl
    · refine @id (StepG _ _ _ _ _ _ _ _ _ _ _) ?_
      intro nst ys wx hn hmay hw hS hd
      obtain rfl : nst = 0 := may_one hmay hn (by kernel_rfl)
      intro K hK
      have e0 : ys 0 = _ := hd 0 (by decide)
      simp only [putL, Act.put, List.setIfInBounds_toArray, List.set_cons_zero, List.set_cons_succ, Nat.zero_add, Nat.reduceAdd, e0] at hK ⊢
      rw [if_pos (by rfl)]
      obtain ⟨y0, y1, y2, y3⟩ := hS.2.2.2.two
      go_simp
      exact hK _ _ (Below.refl _ _) rfl
    · refine @id (StepG _ _ _ _ _ _ _ _ _ _ _) ?_
      intro nst ys wx hn hmay hw hS hd
      intro K hK
      simp only [putL, Act.put, List.setIfInBounds_toArray, List.set_cons_zero, List.set_cons_succ, Nat.zero_add, Nat.reduceAdd] at hK ⊢
      rw [if_pos (by rfl)]
      go_simp
      exact hK _ _ (Below.refl _ _) rfl
    · refine @id (StepG _ _ _ _ _ _ _ _ _ _ _) ?_
      intro nst ys wx hn hmay hw hS hd
      obtain rfl : nst = 0 := may_one hmay hn (by kernel_rfl)
      intro K hK
      simp only [putL, Act.put, List.setIfInBounds_toArray, List.set_cons_zero, List.set_cons_succ, Nat.zero_add, Nat.reduceAdd] at hK ⊢
      rw [if_pos (by rfl)]
      have hmk := mk3BB wx
      have hsx := (hS.1 rfl).size
      go_simp
      exact hK _ _ (below_alloc _ _) (okROW.lt (okROW.mono (row_nil wx) fun q hq => Nat.le_trans hsx hq) |> fun h => okROW.mono h fun q hq => ⟨hq.1, hq.2⟩)
    · refine @id (StepG _ _ _ _ _ _ _ _ _ _ _) ?_
      intro nst ys wx hn hmay hw hS hd
      intro K hK
      have e1 : ys 1 = _ := hd 1 (by decide)
      have e2 : ys 2 = _ := hd 2 (by decide)
      simp only [putL, Act.put, List.setIfInBounds_toArray, List.set_cons_zero, List.set_cons_succ, Nat.zero_add, Nat.reduceAdd, e1, e2] at hK ⊢
      rw [if_pos (by rfl)]
      have r1 : (d : Int) < 4 := by omega
      have r0 : (0 : Int) ≤ d := by omega
      have r2 : (d : Int).toNat = d := by omega
      go_simp
      exact hK _ _ (Below.refl _ _) rfl
    · refine @id (StepS _ _ _ _ _ _ _ _ _ _ _) ?_
      intro ys wx hw hS hd K hK
      have k3 := hd 3 (by decide)
      change (Rg ROW w3.heap.size [[], [], []]) wx (ys 3) at k3
      have e4 : ys 4 = _ := hd 4 (by decide)
      simp only [putL, Act.put, List.setIfInBounds_toArray, List.set_cons_zero, List.set_cons_succ, Nat.zero_add, Nat.reduceAdd, e4] at hK ⊢
      rw [if_pos (by rfl)]
      have k3' : ROW wx (fun q => w3.heap.size ≤ q ∧ q < wx.heap.size) (ys 3) [[], [], []] := k3
      obtain ⟨A3, c3, hy, _, _⟩ := (row_rd k3').shape
      rw [hy] at k3'
      simp only [hy] at hK ⊢
      clear k3 hy
      have hOx := okDISKS.grow HA.out.2.2.2.2 (hS.1 rfl)
      obtain ⟨_, fx, hq0, hq1, _⟩ := hOx.inner okROW hdl
      have hBO3 := HA.out.2.2.2.1.lt
      have hput := hOx.put okROW hdl k3' (fun k hk => ⟨fun h => by omega, hk.2⟩)
      have hbs := (Below.refl w.heap.size wx).setCell (p := ⟨g, d, none⟩) (by show w.heap.size ≤ g; omega) (.slice A3 3 c3)
      have f1 := hS.2.2.1.far (b' := g) (j := d) (v := .slice A3 3 c3) (by omega)
      have f2 := hS.2.2.2.far (b' := g) (j := d) (v := .slice A3 3 c3) (by omega)
      go_simp
      exact hK undef _ hbs ⟨fun e => absurd e (by decide), fun _ => okDISKS.mono hput fun k hk => by omega, f1, f2⟩ trivial ⟨fun _ h => h, fun _ h => h, fun _ h => h, fun _ _ => trivial, fun _ h => h, fun _ h => h, trivial⟩
  · intro ys w' hl' hS' hV
    clear hV
    simp only [putL, Act.put, List.setIfInBounds_toArray, List.set_cons_zero, List.set_cons_succ, Nat.zero_add, Nat.reduceAdd]
    rename_i w'
    have hB' := HA.out.2.2.1.trans (hl'.mono (by omega))
    have hrd : RdA w' (fun k => w.heap.size + 2 ≤ k ∧ k ≠ BO) (.agg #[.slice (some ⟨g, 0, none⟩) 4 cg, .slice none 0 0]) ⟨a.disks.set d [[], [], []], a.ints⟩ := ⟨_, _, rfl, disks_rd (hS'.2.1 rfl), by show RdIs _ _ _ a.ints; rw [HNO.out]; exact RdIs.nil_ _ _ _ _ (by decide)⟩
    obtain ⟨z0, z1, z2, z3⟩ := hS'.2.2.1.two
    obtain ⟨y0, y1, y2, y3⟩ := hS'.2.2.2.two
    have HRET := Lib.hid (ret_box (F' := fun k => w.heap.size ≤ k) hS'.2.2.1 hB' (by omega) hrd (fun k hk => by omega) fun k hk => by omega)
    clear hS' hl' hB' hrd
    go_wp2_with fail
    exact bodyPost_ret (v := .tuple #[.agg #[.slice (some ⟨g, 0, none⟩) 4 cg, .slice none 0 0], .int .i64 0]) (by simp [results, Try.results40, go_sem, *]) rfl (by rw [HP.out]; exact ⟨_, rfl, HRET.out.1, HRET.out.2⟩)
end Go.Proofs.Ytlbnkoahkfhimaa

/- Chapter 6: what the reference's Parse computes: the walk. -/
import Derived.Test.YtdcmbdghnkgghaaDoorT10
namespace Go.Proofs.YtdcmbdghnkgghaaDoor
set_option linter.unusedVariables false
open Go Go.RowKit M
theorem ref_no (er : Int) (w : World) :
    Calls Tryd.prog 29 #[.int .i64 er] w fun e w' => e = .returned (.tuple #[.agg #[.int .i64 0, .int .i64 0, .int .i64 0, .slice none 0 0], .int .i64 er]) ∧ Below w.heap.size w w' := by
  have hX := boxAt_new w 24 [.int .i64 0, .int .i64 0, .int .i64 0, .slice none 0 0]
  have hl := below_alloc w (.cells #[.int .i64 0, .int .i64 0, .int .i64 0, .slice none 0 0] 24)
  obtain ⟨w1, hw1⟩ : ∃ x, w.alloc (.cells #[.int .i64 0, .int .i64 0, .int .i64 0, .slice none 0 0] 24) = x := ⟨_, rfl⟩
  change BoxAt (w.alloc (.cells #[.int .i64 0, .int .i64 0, .int .i64 0, .slice none 0 0] 24)) _ _ _ at hX
  rw [hw1] at hX hl
  obtain ⟨⟨z0, z1, z2, z3⟩, f0, f1, f2, f3⟩ := hX.eight
  have HEnd := Lib.hid (no_end hX rfl hl)
  clear hX hl
  go_enter Tryd.func29, Tryd.ntmps29
  go_wp2_with fail
  clear z0 z1 z2 z3 f0 f1 f2 f3
  have HEnd' : Hid (Ends w ((((w1.setCell ⟨w.heap.size, 0, none⟩ (.int .i64 0)).setCell ⟨w.heap.size, 1, none⟩ (.int .i64 0)).setCell ⟨w.heap.size, 2, none⟩ (.int .i64 0)).setCell ⟨w.heap.size, 3, none⟩ (.slice none 0 0)) zeroD 0 0 0 (.slice none 0 0)) := HEnd
  clear HEnd
  generalize (((w1.setCell ⟨w.heap.size, 0, none⟩ (.int .i64 0)).setCell ⟨w.heap.size, 1, none⟩ (.int .i64 0)).setCell ⟨w.heap.size, 2, none⟩ (.int .i64 0)).setCell ⟨w.heap.size, 3, none⟩ (.slice none 0 0) = wF at *
  obtain ⟨r0, r1, c0, c1, c2, c3⟩ := HEnd'.out
  exact bodyPost_ret (v := .tuple #[.agg #[.int .i64 0, .int .i64 0, .int .i64 0, .slice none 0 0], .int .i64 er]) (by simp [results, Tryd.results29, go_sem, c0, c1, c2, c3]) rfl ⟨rfl, r1⟩
/-- A number's text, read. -/
theorem atoi_any (s : ByteArray) (hs : s.size ≤ 281474976710656) (w : World) (hv : Vars w) :
    Calls Tryd.prog 30 #[.string s] w fun e w' => (∃ v ev, e = .returned (.tuple #[.int .i64 v, ev]) ∧ (ev = .nilIface ∧ Lib.atoiAll s.data.toList = .ok v ∨ (∃ t p, ev = .iface t (.pointer p)) ∧ numP s.data.toList = (v, false))) ∧ Below w.heap.size w w' := by
  rcases atoi_three s.data.toList with ⟨v, h⟩ | h | h
  · refine (Tryd.strconv_Atoi_ok s (by omega) v h w).mono ?_
    rintro e w1 ⟨rfl, hw⟩
    refine ⟨⟨_, _, rfl, .inl ⟨rfl, h⟩⟩, ?_⟩
    rcases hw with rfl | ⟨t, rfl⟩
    · exact Below.refl _ _
    · exact Joins.below_bytesWorld _ _ _ _ (Nat.le_refl _)
  · obtain ⟨ev, hev, hg⟩ := hv.e1
    refine (Tryd.strconv_Atoi_syntax s hs h ev w hev hg).mono ?_
    rintro e w1 ⟨N, rfl, _, _, hb⟩
    exact ⟨⟨_, _, rfl, .inr ⟨⟨_, _, rfl⟩, by unfold numP; rw [h]; rfl⟩⟩, hb⟩
  · obtain ⟨ev, hev, hg⟩ := hv.e2
    refine (Tryd.strconv_Atoi_range s hs h ev w hev hg).mono ?_
    rintro e w1 ⟨N, rfl, _, _, hb⟩
    exact ⟨⟨_, _, rfl, .inr ⟨⟨_, _, rfl⟩, by unfold numP; rw [h]⟩⟩, hb⟩
theorem slS : M.SlTy Tryd.prog 59 9 16 := sl_of Tryd.underlying59 (z := .string ByteArray.empty) (by kernel_rfl) rfl (by decide)
theorem take_free {l : List UInt8} {k : Nat} (h : ∀ i, i < k → l[i]? ≠ some 32) : ∀ c ∈ l.take k, c ≠ 32 := by
  intro c hc e
  subst e
  obtain ⟨i, hi, he⟩ := List.getElem_of_mem hc
  rw [List.length_take] at hi
  rw [List.getElem_take] at he
  exact h i (by omega) (by rw [List.getElem?_eq_getElem (by omega), he])
theorem cut_at {l : List UInt8} {q j : Nat} (hq : q ≤ j) (hj : j < l.length) (h : ∀ k, q ≤ k → k < j → l[k]? ≠ some 32) (h32 : l[j] = 32) : cut (l.drop q) = (l.drop q).take (j - q) :: cut (l.drop (j + 1)) := by
  have e : l.drop q = (l.drop q).take (j - q) ++ 32 :: l.drop (j + 1) := by
    conv => lhs; rw [← List.take_append_drop (j - q) (l.drop q)]
    rw [List.drop_drop, show q + (j - q) = j by omega, List.drop_eq_getElem_cons hj, h32]
  have hf : ∀ c ∈ (l.drop q).take (j - q), c ≠ 32 := take_free fun i hi => by rw [List.getElem?_drop]; exact h (q + i) (by omega) (by omega)
  generalize (l.drop q).take (j - q) = a at e hf
  rw [e]
  exact cut_app hf _
theorem cut_end {l : List UInt8} {q : Nat} (h : ∀ k, q ≤ k → k < l.length → l[k]? ≠ some 32) : cut (l.drop q) = [l.drop q] := by
  have hf := take_free (l := l.drop q) (k := (l.drop q).length) fun i hi => by rw [List.getElem?_drop]; rw [List.length_drop] at hi; exact h (q + i) (by omega) (by omega)
  rw [List.take_length] at hf
  exact cut_free hf
theorem extract_list (s : ByteArray) (q j : Nat) : (s.extract q j).data.toList = (s.data.toList.drop q).take (j - q) := by
  rw [ByteArray.data_extract, Array.toList_extract]
/-- Behind j letters: pieces ps, the one under way begins at q. -/
def Cut1 (s : ByteArray) (j q : Nat) (ps : List ByteArray) : Prop :=
  j ≤ s.size + 1 ∧ q ≤ j ∧ ps.length ≤ q ∧ (∀ p ∈ ps, p.size ≤ s.size) ∧ (j ≤ s.size → cut s.data.toList = ps.map (·.data.toList) ++ cut (s.data.toList.drop q)) ∧
    (j = s.size + 1 → cut s.data.toList = ps.map (·.data.toList)) ∧ ∀ k, q ≤ k → k < j → s.data.toList[k]? ≠ some 32
theorem cut1_start (s : ByteArray) : Cut1 s 0 0 [] := ⟨Nat.zero_le _, Nat.le_refl _, Nat.le_refl _, (fun _ h => by cases h), (fun _ => rfl), (fun h => by omega), fun k _ h => by omega⟩
theorem cut1_end {s : ByteArray} {q : Nat} {ps : List ByteArray} (h : Cut1 s s.size q ps) : Cut1 s (s.size + 1) (s.size + 1) (ps ++ [s.extract q s.size]) := by
  obtain ⟨h1, h2, h3, h4, h5, h6, h7⟩ := h
  have hl : s.data.toList.length = s.size := rfl
  refine ⟨Nat.le_refl _, Nat.le_refl _, by rw [List.length_append]; simp; omega, fun p hp => ?_, (fun h => by omega), fun _ => ?_, fun k _ h => by omega⟩
  · rcases List.mem_append.1 hp with hp | hp
    · exact h4 p hp
    · rw [List.mem_singleton] at hp
      rw [hp, ByteArray.size_extract]
      omega
  · rw [h5 (Nat.le_refl _), cut_end (fun k hk hk2 => h7 k hk (by omega)), List.map_append]
    congr 1
    show _ = [(s.extract q s.size).data.toList]
    rw [extract_list, List.take_of_length_le (by rw [List.length_drop]; omega)]
theorem cut1_cut {s : ByteArray} {j q : Nat} {ps : List ByteArray} (h : Cut1 s j q ps) (hj : j < s.size) (h32 : s[j] = 32) : Cut1 s (j + 1) (j + 1) (ps ++ [s.extract q j]) := by
  obtain ⟨h1, h2, h3, h4, h5, h6, h7⟩ := h
  have hl : j < s.data.toList.length := hj
  refine ⟨by omega, Nat.le_refl _, by rw [List.length_append]; simp; omega, fun p hp => ?_, fun _ => ?_, (fun h => by omega), fun k _ h => by omega⟩
  · rcases List.mem_append.1 hp with hp | hp
    · exact h4 p hp
    · rw [List.mem_singleton] at hp
      rw [hp, ByteArray.size_extract]
      omega
  · rw [h5 (by omega), cut_at h2 hl h7 h32, List.map_append, ← extract_list, List.append_assoc]
    rfl
theorem cut1_skip {s : ByteArray} {j q : Nat} {ps : List ByteArray} (h : Cut1 s j q ps) (hj : j < s.size) (h32 : ¬ s[j] = 32) : Cut1 s (j + 1) q ps := by
  obtain ⟨h1, h2, h3, h4, h5, h6, h7⟩ := h
  have hl : j < s.data.toList.length := hj
  refine ⟨by omega, by omega, h3, h4, (fun _ => h5 (by omega)), (fun h => by omega), fun k hk hk2 => ?_⟩
  by_cases e : k = j
  · subst e
    rw [List.getElem?_eq_getElem hl]
    intro e
    injection e with e
    exact h32 e
  · exact h7 k hk (by omega)
theorem cut1_done {s : ByteArray} {q : Nat} {ps : List ByteArray} (h : Cut1 s (s.size + 1) q ps) : cut s.data.toList = ps.map (·.data.toList) ∧ (∀ p ∈ ps, p.size ≤ s.size) ∧ ps.length ≤ s.size + 1 :=
  ⟨h.2.2.2.2.2.1 rfl, h.2.2.2.1, Nat.le_trans h.2.2.1 h.2.1⟩
theorem eq32_all : ∀ n : Fin 256, ((((UInt8.ofNat n.val).toNat : Nat) : Int) == 32) = decide (UInt8.ofNat n.val = 32) := by decide +kernel
theorem eq32 (c : UInt8) : (((c.toNat : Nat) : Int) == 32) = decide (c = 32) := by
  have := eq32_all ⟨c.toNat, c.toNat_lt⟩
  rwa [UInt8.ofNat_toNat] at this
theorem cast_succ (j : Nat) : Value.int .i64 ((j : Int) + 1) = .int .i64 ((j + 1 : Nat) : Int) := by rw [Int.natCast_add]; rfl
theorem meas_succ {j n : Nat} (h : j ≤ n) : n + 2 - (intOf (.int .i64 ((j : Int) + 1))).toNat < n + 2 - (intOf (.int .i64 (j : Int))).toNat := by
  simp only [intOf]
  omega
theorem wrap_succ {j : Nat} (h : j ≤ 1048577) : IntKind.i64.wrap ((j : Int) + 1) = (j : Int) + 1 ∧ wrap64 ((j : Int) + 1) = (j : Int) + 1 ∧ IntKind.i64.wrap ((j : Nat) : Int) = (j : Int) := ⟨IntWalk.i64_in _ (by omega), by unfold wrap64; omega, IntWalk.i64_in _ (by omega)⟩
theorem room_piece {ps : List ByteArray} {q j n : Nat} (h1 : ps.length ≤ q) (h2 : q ≤ j) (h3 : j ≤ n + 1) (h4 : n ≤ 1048576) : ((ps.map Value.string).length + 1) * 16 ≤ 140737488355328 := by rw [List.length_map]; omega
theorem rvl_set4 {w : World} {F : Fp} {u : Value} {xs : List Value} {b : Nat} {v0 v1 v2 v3 : Value} (h : RdL RV w F u xs) (hF : ∀ k, F k → k ≠ b) : RdL RV (set4 w b v0 v1 v2 v3) F u xs := okRVL.setc (okRVL.setc (okRVL.setc (okRVL.setc h hF) hF) hF) hF
theorem kind_words (p : ByteArray) : (p = ⟨#[119, 114, 105, 116, 101]⟩ ∧ kindP p.data.toList = 1) ∨ (p = ⟨#[115, 119, 97, 112]⟩ ∧ kindP p.data.toList = 2) ∨ ((p.toList == [119, 114, 105, 116, 101]) = false ∧ (p.toList == [115, 119, 97, 112]) = false ∧ kindP p.data.toList = 0) := by
  have he : ∀ q : List UInt8, p.data.toList = q → p = ⟨q.toArray⟩ := fun q h => by
    obtain ⟨⟨l⟩⟩ := p
    exact congrArg (fun x : List UInt8 => (⟨⟨x⟩⟩ : ByteArray)) h
  rcases kind_cases p.data.toList with h | h | h
  · refine .inr (.inr ⟨?_, ?_, h⟩)
    · rw [beq_eq_false_iff_ne, ByteArray.toList_eq]
      intro e
      rw [e] at h
      exact absurd h (by decide)
    · rw [beq_eq_false_iff_ne, ByteArray.toList_eq]
      intro e
      rw [e] at h
      exact absurd h (by decide)
  · exact .inl ⟨he _ (kind_word.1 h), h⟩
  · exact .inr (.inl ⟨he _ (kind_word.2 h), h⟩)
/-- What stays known behind the pieces. -/
structure PW (w W : World) (BD bl ol cl : Nat) (cs : List Value) (q0 p1 p2 : ByteArray) : Prop where
  bd : BoxAt W BD 24 cs
  z : BoxAt W w.heap.size 24 [.int .i64 0, .int .i64 0, .int .i64 0, .slice none 0 0]
  row : RdL RV W (fun k => w.heap.size + 1 ≤ k ∧ k < BD) (.slice (some ⟨bl, ol, none⟩) 3 cl) [.string q0, .string p1, .string p2]
  be : Below w.heap.size w W
  vs : Vars W
theorem PW.grow {w W W' : World} {BD bl ol cl : Nat} {cs : List Value} {q0 p1 p2 : ByteArray} (h : PW w W BD bl ol cl cs q0 p1 p2) (hb : Below W.heap.size W W') : PW w W' BD bl ol cl cs q0 p1 p2 :=
  ⟨h.bd.grow hb, h.z.grow hb, okRVL.grow h.row hb, h.be.trans (hb.mono h.be.size), h.vs.grow hb⟩
theorem PW.put {w W : World} {BD bl ol cl : Nat} {cs : List Value} {q0 p1 p2 : ByteArray} (h : PW w W BD bl ol cl cs q0 p1 p2) (hv : Vars w) (hlt : w.heap.size < BD) (j : Nat) (v : Value) : PW w (W.setCell ⟨BD, j, none⟩ v) BD bl ol cl (cs.set j v) q0 p1 p2 :=
  have hb := h.be.setCell (p := ⟨BD, j, none⟩) (Nat.le_of_lt hlt) v
  ⟨h.bd.set_ j v, h.z.far (Nat.ne_of_lt hlt), okRVL.setc h.row fun k hk => Nat.ne_of_lt hk.2, hb, hv.grow hb⟩
theorem PW.piece {w W : World} {BD bl ol cl : Nat} {cs : List Value} {q0 p1 p2 : ByteArray} (h : PW w W BD bl ol cl cs q0 p1 p2) : W.cell? ⟨bl, ol + 1, none⟩ = some (.string p1) ∧ W.cell? ⟨bl, ol + 2, none⟩ = some (.string p2) := by
  obtain ⟨x1, hc1, hx1⟩ := RdL_q h.row (k := 1) (x := .string p1) rfl
  obtain ⟨x2, hc2, hx2⟩ := RdL_q h.row (k := 2) (x := .string p2) rfl
  rw [hc1, hc2, hx1.1, hx2.1]
  exact ⟨rfl, rfl⟩
theorem piece_bad1 {a b c : List UInt8} (hk : kindP a = 1 ∨ kindP a = 2) (h : (numP b).2 = false) : pieceP [a, b, c] = (zeroD, 2) := by
  rcases hk with hk | hk
  · exact piece_odd hk (.inl h)
  · rw [piece_swap hk, h]
    rfl
theorem piece_bad2 {a b c : List UInt8} (hk : kindP a = 2) (h : (numP c).2 = false) : pieceP [a, b, c] = (zeroD, 2) := by
  rw [piece_swap hk, h, Bool.and_false]
  rfl
theorem num_ok {l : List UInt8} {v : Int} (h : Lib.atoiAll l = .ok v) : numP l = (v, Lib.itoa v == l) := by unfold numP; rw [h]
theorem word_back (l : List UInt8) : (⟨l.toArray⟩ : ByteArray).toList = l := strB_toList l
theorem PW.below {w W W' : World} {BD bl ol cl : Nat} {cs : List Value} {q0 p1 p2 : ByteArray} (h : PW w W BD bl ol cl cs q0 p1 p2) (hv : Vars w) (hlt : w.heap.size < BD) (hb : Below (BD + 1) W W') : PW w W' BD bl ol cl cs q0 p1 p2 :=
  have hbe := h.be.trans (hb.mono (by omega))
  ⟨h.bd.keep hb (Nat.lt_succ_self _), h.z.keep hb (by omega), okRVL.below h.row hb (fun k hk _ => by omega), hbe, hv.grow hbe⟩
/-- Behind q digits: acc is the half that waits, xs the bytes. -/
def Hx (l : List UInt8) (q : Nat) (acc : Int) (xs : Bs) : Prop :=
  xs.length = q / 2 ∧ 0 ≤ acc ∧ acc ≤ 15 ∧ (q % 2 = 0 → acc = 0 ∧ hexP l = (xs ++ (hexP (l.drop q)).1, (hexP (l.drop q)).2)) ∧
    (q % 2 = 1 → ∃ c, l.drop (q - 1) = c :: l.drop q ∧ 0 ≤ hexA c ∧ acc = hexA c ∧ hexP l = (xs ++ (hexP (l.drop (q - 1))).1, (hexP (l.drop (q - 1))).2))
theorem hx_start (l : List UInt8) : Hx l 0 0 [] := ⟨rfl, by decide, by decide, fun _ => ⟨rfl, by simp⟩, fun h => by omega⟩
theorem hx_end {l : List UInt8} {q : Nat} {acc : Int} {xs : Bs} (h : Hx l q acc xs) (he : q % 2 = 0) (hq : l.length ≤ q) : hexP l = (xs, true) := by
  rw [(h.2.2.2.1 he).2, List.drop_eq_nil_of_le hq]
  simp [hexP]
theorem hexP_two (c d : UInt8) (r : List UInt8) : hexP (c :: d :: r) = if 0 ≤ hexA c ∧ 0 ≤ hexA d then (hexB c d :: (hexP r).1, (hexP r).2) else ([hexB c d], false) := by
  conv => lhs; unfold hexP
theorem hx_bad {l : List UInt8} {q : Nat} {acc : Int} {xs : Bs} (h : Hx l q acc xs) (hq : q < l.length) (hl : l.length % 2 = 0) {c : UInt8} (hc : l[q] = c) (hb : hexA c < 0) : (hexP l).2 = false := by
  rcases Nat.mod_two_eq_zero_or_one q with he | he
  · have h2 : q + 1 < l.length := by omega
    rw [(h.2.2.2.1 he).2, List.drop_eq_getElem_cons hq, List.drop_eq_getElem_cons h2, hexP_two, hc, if_neg (by omega)]
  · obtain ⟨d, h1, _, _, h4⟩ := h.2.2.2.2 he
    rw [h4, h1, List.drop_eq_getElem_cons hq, hexP_two, hc, if_neg (by omega)]
theorem hx_first {l : List UInt8} {q : Nat} {acc : Int} {xs : Bs} (h : Hx l q acc xs) (hq : q < l.length) (he : q % 2 = 0) {c : UInt8} (hc : l[q] = c) (hb : 0 ≤ hexA c) : Hx l (q + 1) (16 * acc + hexA c) xs := by
  obtain ⟨h1, _, _, h3, _⟩ := h
  obtain ⟨h4, h5⟩ := h3 he
  have hbb := hexA_bounds c
  refine ⟨by omega, by omega, by omega, fun h => by omega, fun _ => ⟨c, ?_, hb, by omega, ?_⟩⟩
  · rw [Nat.add_sub_cancel, List.drop_eq_getElem_cons hq, hc]
  · rw [Nat.add_sub_cancel]
    exact h5
theorem hx_byte {c d : UInt8} (hc : 0 ≤ hexA c) (hd : 0 ≤ hexA d) : hexB c d = UInt8.ofNat (16 * hexA c + hexA d).toNat := by
  unfold hexB
  rw [Int.max_eq_left hc, Int.max_eq_left hd]
theorem hx_second {l : List UInt8} {q : Nat} {acc : Int} {xs : Bs} (h : Hx l q acc xs) (hq : q < l.length) (he : q % 2 = 1) {c : UInt8} (hc : l[q] = c) (hb : 0 ≤ hexA c) : Hx l (q + 1) 0 (xs ++ [UInt8.ofNat (16 * acc + hexA c).toNat]) := by
  obtain ⟨h1, _, _, _, h3⟩ := h
  obtain ⟨d, h4, h5, h6, h7⟩ := h3 he
  refine ⟨by rw [List.length_append]; simp; omega, by decide, by decide, fun _ => ⟨rfl, ?_⟩, fun h => by omega⟩
  rw [h7, h4, List.drop_eq_getElem_cons hq, hexP_two, hc, if_pos ⟨h5, hb⟩, hx_byte h5 hb, h6]
  simp
/-- The digit that a round of sixteen finds. -/
def hexTo (c : UInt8) : Nat → Int
  | 0 => -1
  | k + 1 => if hexC k = c then (k : Int) else hexTo c k
theorem hexTo_next (c : UInt8) (k : Nat) : hexTo c (k + 1) = if decide (hexC k = c) = true then (k : Int) else hexTo c k := by
  show (if hexC k = c then (k : Int) else hexTo c k) = _
  by_cases h : hexC k = c
  · rw [if_pos h, if_pos (decide_eq_true h)]
  · rw [if_neg h, if_neg (by rw [decide_eq_false h]; exact Bool.false_ne_true)]
theorem odd_of {q : Nat} (h : ¬ q % 2 = 0) : q % 2 = 1 := by omega
theorem hx_room {l : List UInt8} {q : Nat} {acc : Int} {xs : Bs} (h : Hx l q acc xs) (hq : q < l.length) (hl : l.length ≤ 1048576) : (xs.length + 1) * 1 ≤ 140737488355328 := by
  have := h.1
  omega
theorem hx_par {l : List UInt8} {q n : Nat} (hl : l.length = n) (he : n % 2 = 0) (h1 : q ≤ n) (h2 : ¬ q < n) : q % 2 = 0 ∧ l.length ≤ q := ⟨by omega, by omega⟩
theorem hexTo_all : ∀ n : Fin 256, hexTo (UInt8.ofNat n.val) 16 = hexA (UInt8.ofNat n.val) := by decide +kernel
theorem hexTo_end (c : UInt8) : hexTo c 16 = hexA c := by
  have := hexTo_all ⟨c.toNat, c.toNat_lt⟩
  rwa [UInt8.ofNat_toNat] at this
theorem byte_eq (c d : UInt8) : (((c.toNat : Nat) : Int) == ((d.toNat : Nat) : Int)) = decide (c = d) := by
  by_cases h : c = d
  · rw [h, decide_eq_true rfl, beq_self_eq_true]
  · rw [decide_eq_false h, beq_eq_false_iff_ne]
    intro e
    exact h (UInt8.toNat_inj.1 (by omega))
theorem acc_wrap {acc h : Int} (h0 : 0 ≤ acc) (h1 : acc ≤ 15) (h2 : 0 ≤ h) (h3 : h ≤ 15) : wrap64 (16 * acc) = 16 * acc ∧ wrap64 (16 * acc + h) = 16 * acc + h ∧ (16 * acc + h) % 256 = ((((UInt8.ofNat (16 * acc + h).toNat).toNat : Nat)) : Int) := by
  refine ⟨by unfold wrap64; omega, by unfold wrap64; omega, ?_⟩
  rw [UInt8.toNat_ofNat']
  omega
theorem par_mod {q : Nat} (h : q % 2 = 0) : (q : Int).tmod 2 = 0 ∧ (q : Int) % 2 = 0 := ⟨by rw [Int.tmod_eq_emod_of_nonneg (by omega)]; omega, by omega⟩
theorem odd_mod {q : Nat} (h : q % 2 = 1) : (q : Int).tmod 2 = 1 ∧ (q : Int) % 2 = 1 := ⟨by rw [Int.tmod_eq_emod_of_nonneg (by omega)]; omega, by omega⟩
set_option maxRecDepth 100000 in
set_option maxHeartbeats 12800000 in
theorem ref_Parse (s : ByteArray) (hs : s.size ≤ 1048576) (w : World) (hv : Vars w) :
    Calls Tryd.prog 10 #[.string s] w fun e w' => ∃ v', e = .returned (.tuple #[v', .int .i64 (parseP s.data.toList).2]) ∧ RdD w' (fun k => w.heap.size ≤ k) v' (parseP s.data.toList).1 ∧ Below w.heap.size w w' := by
  have hZ1 := boxAt_new w 24 [.int .i64 0, .int .i64 0, .int .i64 0, .slice none 0 0]
  have hb1 := below_alloc w (.cells #[.int .i64 0, .int .i64 0, .int .i64 0, .slice none 0 0] 24)
  obtain ⟨w1, hw1⟩ : ∃ x, w.alloc (.cells #[.int .i64 0, .int .i64 0, .int .i64 0, .slice none 0 0] 24) = x := ⟨_, rfl⟩
  change BoxAt (w.alloc (.cells #[.int .i64 0, .int .i64 0, .int .i64 0, .slice none 0 0] 24)) _ _ _ at hZ1
  rw [hw1] at hZ1 hb1
  have HZ1 := Lib.hid hZ1
  have HB1 := Lib.hid hb1
  have HV0 := Lib.hid hv
  have HSZ := Lib.hid hs
  obtain ⟨n, hn⟩ : ∃ n, s.size = n := ⟨_, rfl⟩
  have hn2 : n ≤ 1048576 := by omega
  have hwr : IntKind.i64.wrap ((n : Int) + 1) = (n : Int) + 1 := IntWalk.i64_in _ (by omega)
  have hwr2 : wrap64 ((n : Int) + 1) = (n : Int) + 1 := by unfold wrap64; omega
  clear hZ1 hb1 hv hs
  go_enter Tryd.func10, Tryd.ntmps10
  go_wp2_with fail
  clear hw1
  go_loopw [5, 6, 21] (fun u f i wr => ∃ (j q : Nat) (ps : List ByteArray), i = .int .i64 (j : Int) ∧ f = .int .i64 (q : Int) ∧ Cut1 s j q ps ∧ Bld RV 9 wr (w.heap.size + 1) (fun _ => True) u (ps.map Value.string) ∧ BoxAt wr w.heap.size 24 [.int .i64 0, .int .i64 0, .int .i64 0, .slice none 0 0] ∧ Below w.heap.size w wr) (fun _ _ i _ => n + 2 - (intOf i).toNat)
  case atStart => exact ⟨0, 0, [], rfl, rfl, cut1_start s, Bld.nil_ _ _ _ _ _, HZ1.out, HB1.out⟩
  case round =>
    clear HZ1 HB1
    obtain ⟨j, q, ps, rfl, rfl, hc, hU, hZ, hB⟩ := hrel
    have HU := Lib.hid hU
    have HC := Lib.hid hc
    have HZ := Lib.hid hZ
    have HB := Lib.hid hB
    have hzl := hZ.lt
    have hj : j ≤ n + 1 := by rw [← hn]; exact hc.1
    have hqj : q ≤ j := hc.2.1
    have HW := Lib.hid (wrap_succ (j := j) (Nat.le_trans hj (Nat.succ_le_succ hn2)))
    have q0 : (0 : Int) ≤ (q : Int) := by omega
    have q1 : (q : Int) ≤ (j : Int) := by omega
    have q2 : (q : Int).toNat = q := by omega
    have q4 : (j : Int).toNat = j := by omega
    clear hU hc hZ hB
    by_cases hend : j = n + 1
    · have dl : decide ((j : Int) < (n : Int) + 1) = false := by rw [hend]; simp
      have HC2 : Hid (Cut1 s (s.size + 1) q ps) := Lib.hid (by rw [← hend.trans (congrArg (· + 1) hn.symm)]; exact HC.out)
      clear HC hend q0 q1 q2 q4 hj hqj HW
      obtain ⟨hcut, hpz, hpl⟩ := cut1_done HC2.out
      have hPP : parseP s.data.toList = pieceP (ps.map (·.data.toList)) := by rw [parseP_cut, hcut]
      have hpos : 0 < ps.length := by
        obtain ⟨a, b, hab⟩ := cut_ne s.data.toList
        rw [hab] at hcut
        have := congrArg List.length hcut
        rw [List.length_map, List.length_cons] at this
        omega
      have hrow : RdL RV wr (fun k => w.heap.size + 1 ≤ k) u5 (ps.map Value.string) := (HU.out.anyG (G' := fun _ => False)).toRd okRV (F := fun k => w.heap.size + 1 ≤ k) (fun _ hk => hk) (fun _ h => h.elim)
      obtain ⟨bl, ol, cl, rfl, hFl, hbl, hcl, hcm⟩ := RdL.form hrow (by rw [List.length_map]; exact hpos)
      rw [List.length_map] at hrow hcl ⊢
      have hm := hn2
      have hpl2 : ps.length ≤ 1048577 := Nat.le_trans hpl (by omega)
      have hD := boxAt_new wr 24 [.int .i64 0, .int .i64 0, .int .i64 0, .slice none 0 0]
      have hal := below_alloc wr (.cells #[.int .i64 0, .int .i64 0, .int .i64 0, .slice none 0 0] 24)
      obtain ⟨wD, hwD⟩ : ∃ x, wr.alloc (.cells #[.int .i64 0, .int .i64 0, .int .i64 0, .slice none 0 0] 24) = x := ⟨_, rfl⟩
      change BoxAt (wr.alloc (.cells #[.int .i64 0, .int .i64 0, .int .i64 0, .slice none 0 0] 24)) _ _ _ at hD
      have hrow2 := okRVL.mono (okRVL.grow (okRVL.lt hrow) hal) (F' := fun k => w.heap.size + 1 ≤ k ∧ k < wr.heap.size) fun k hk => hk
      have hZ2 := HZ.out.grow hal
      have hB2 := HB.out.trans (hal.mono HB.out.size)
      rw [hwD] at hD hrow2 hZ2 hB2
      obtain ⟨BD, hBD⟩ : ∃ b, wr.heap.size = b := ⟨_, rfl⟩
      rw [hBD] at hD hrow2 hbl hzl
      have hne : w.heap.size ≠ BD := Nat.ne_of_lt hzl
      have hD5 : BoxAt (set4 wD BD (.int .i64 0) (.int .i64 0) (.int .i64 0) (.slice none 0 0)) BD 24 [.int .i64 0, .int .i64 0, .int .i64 0, .slice none 0 0] := (((hD.set_ 0 (.int .i64 0)).set_ 1 (.int .i64 0)).set_ 2 (.int .i64 0)).set_ 3 (.slice none 0 0)
      have hZ5 : BoxAt (set4 wD BD (.int .i64 0) (.int .i64 0) (.int .i64 0) (.slice none 0 0)) w.heap.size 24 [.int .i64 0, .int .i64 0, .int .i64 0, .slice none 0 0] := (((hZ2.far hne).far hne).far hne).far hne
      have hR5 := rvl_set4 (b := BD) (v0 := .int .i64 0) (v1 := .int .i64 0) (v2 := .int .i64 0) (v3 := .slice none 0 0) hrow2 fun k hk => Nat.ne_of_lt hk.2
      have hB5 := hB2.trans (below_set4 (w := wD) (b := BD) (v0 := .int .i64 0) (v1 := .int .i64 0) (v2 := .int .i64 0) (v3 := .slice none 0 0) (Nat.le_of_lt hzl))
      obtain ⟨wE, hwE⟩ : ∃ x, (((wD.setCell ⟨BD, 0, none⟩ (.int .i64 0)).setCell ⟨BD, 1, none⟩ (.int .i64 0)).setCell ⟨BD, 2, none⟩ (.int .i64 0)).setCell ⟨BD, 3, none⟩ (.slice none 0 0) = x := ⟨_, rfl⟩
      unfold set4 at hD5 hZ5 hR5 hB5
      rw [hwE] at hD5 hZ5 hR5 hB5
      have HD2 := Lib.hid hD5
      have HR2 := Lib.hid hR5
      have HZ2 := Lib.hid hZ5
      have HB2 := Lib.hid hB5
      obtain ⟨⟨b0, b1, b2, b3⟩, a0, a1, a2, a3⟩ := hD.eight
      have HPZ := Lib.hid hpz
      have HPP0 := Lib.hid hPP
      obtain ⟨p0, hp0⟩ : ∃ p, ps[0]? = some p := ⟨ps[0]'hpos, List.getElem?_eq_getElem _⟩
      have HP0 := Lib.hid hp0
      obtain ⟨x0, hc0, hx0⟩ := RdL_q hR5 (k := 0) (x := .string p0) (by rw [List.getElem?_map, hp0]; rfl)
      obtain rfl : x0 = .string p0 := hx0.1
      rw [Nat.add_zero] at hc0
      have HBL := Lib.hid (And.intro hFl hbl)
      have hk0 : kindP ((ps.map (·.data.toList)).getD 0 []) = kindP p0.data.toList := by simp [List.getD, hp0]
      have HK0 := Lib.hid hk0
      have hpos2 : (0 : Int) < (ps.length : Int) := by omega
      obtain ⟨⟨d0, d1, d2, d3⟩, g0, g1, g2, g3⟩ := hD5.eight
      clear HU HC2 HZ HB hcut hpz hpl hrow hal hD hrow2 hZ2 hB2 hD5 hZ5 hR5 hB5 hp0 hx0 hFl hbl hk0 hm hPP
      rcases kind_words p0 with ⟨hw0, hK⟩ | ⟨hw0, hK⟩ | ⟨hw1, hw2, hK⟩
      rotate_left 2
      · have HF : Hid (parseP s.data.toList = (zeroD, 1)) := Lib.hid (by rw [HPP0.out]; exact piece_none (by rw [HK0.out, hK]))
        clear hK HK0 HPP0 HPZ HP0
        go_wp2_with fail
        clear hw1 hw2 hc0 d0 d1 d2 d3 g0 g1 g2 g3 b0 b1 b2 b3 a0 a1 a2 a3 hwD hwE
        refine (ref_no (1) _).mono ?_
        rintro e wN ⟨rfl, hbN⟩
        have HZN := Lib.hid (HZ2.out.grow hbN)
        have HBN := Lib.hid (HB2.out.trans (hbN.mono HB2.out.size))
        clear hbN HZ2 HB2
        have HEnd := Lib.hid (no_end HZN.out rfl HBN.out)
        obtain ⟨⟨z0, z1, z2, z3⟩, f0, f1, f2, f3⟩ := HZN.out.eight
        obtain ⟨wF, hwF⟩ : ∃ x, ((((wN.setCell ⟨w.heap.size, 0, none⟩ (.int .i64 0)).setCell ⟨w.heap.size, 1, none⟩ (.int .i64 0)).setCell ⟨w.heap.size, 2, none⟩ (.int .i64 0)).setCell ⟨w.heap.size, 3, none⟩ (.slice none 0 0)) = x := ⟨_, rfl⟩
        have HEnd' : Hid (Ends w wF (zeroD) (0) (0) (0) (.slice none 0 0)) := Lib.hid (hwF ▸ HEnd.out)
        clear HEnd
        obtain ⟨r0, r1, c0, c1, c2, c3⟩ := HEnd'.out
        go_wp2_with (exact bodyPost_ret (v := .tuple #[.agg #[.int .i64 (0), .int .i64 (0), .int .i64 (0), .slice none 0 0], .int .i64 (1)]) (by simp [results, Tryd.results10, go_sem, c0, c1, c2, c3]) rfl (by rw [HF.out]; exact ⟨_, rfl, r0, r1⟩))
      · have HK := Lib.hid (HK0.out.trans hK)
        subst hw0
        have hKD : BoxAt (wE.setCell ⟨BD, 0, none⟩ (.int .i64 1)) BD 24 [.int .i64 1, .int .i64 0, .int .i64 0, .slice none 0 0] := HD2.out.set_ 0 (.int .i64 1)
        have hKZ := HZ2.out.far (b' := BD) (j := 0) (v := .int .i64 1) hne
        have hKB := HB2.out.setCell (p := ⟨BD, 0, none⟩) (Nat.le_of_lt hzl) (.int .i64 1)
        have hKR := okRVL.setc HR2.out (b := BD) (j := 0) (v := .int .i64 1) fun k hk => Nat.ne_of_lt hk.2
        obtain ⟨wK, hwK⟩ : ∃ x, wE.setCell ⟨BD, 0, none⟩ (.int .i64 1) = x := ⟨_, rfl⟩
        rw [hwK] at hKD hKZ hKB hKR
        have HDK := Lib.hid hKD
        have HZK := Lib.hid hKZ
        have HBK := Lib.hid hKB
        have HRK := Lib.hid hKR
        clear hKD hKZ hKB hKR hK HK0 HD2 HZ2 HB2 HR2
        by_cases h3 : ps.length = 3
        rotate_left
        · have HF : Hid (parseP s.data.toList = (zeroD, 2)) := Lib.hid (by rw [HPP0.out]; exact piece_form (by rw [HK.out]; decide) (by rw [List.length_map]; exact h3))
          have hne3 : ((ps.length : Int) != 3) = true := by rw [bne_iff_ne]; omega
          clear HPP0 HPZ HP0 h3 HK HRK
          go_wp2_with fail
          clear hc0 d0 d1 d2 d3 g0 g1 g2 g3 b0 b1 b2 b3 a0 a1 a2 a3 hwD hwE hwK
          rename ∀ (a : Act) (w : World), _ => hk0
          revert hk0
          repeat (rename ∀ (a : Act) (w : World), _ => hkk; clear hkk)
          intro hk0
          refine (ref_no (2) _).mono ?_
          rintro e wN ⟨rfl, hbN⟩
          have HZN := Lib.hid (HZK.out.grow hbN)
          have HBN := Lib.hid (HBK.out.trans (hbN.mono HBK.out.size))
          clear hbN HZK HBK
          have HEnd := Lib.hid (no_end HZN.out rfl HBN.out)
          obtain ⟨⟨z0, z1, z2, z3⟩, f0, f1, f2, f3⟩ := HZN.out.eight
          obtain ⟨wF, hwF⟩ : ∃ x, ((((wN.setCell ⟨w.heap.size, 0, none⟩ (.int .i64 0)).setCell ⟨w.heap.size, 1, none⟩ (.int .i64 0)).setCell ⟨w.heap.size, 2, none⟩ (.int .i64 0)).setCell ⟨w.heap.size, 3, none⟩ (.slice none 0 0)) = x := ⟨_, rfl⟩
          have HEnd' : Hid (Ends w wF (zeroD) (0) (0) (0) (.slice none 0 0)) := Lib.hid (hwF ▸ HEnd.out)
          clear HEnd
          obtain ⟨r0, r1, c0, c1, c2, c3⟩ := HEnd'.out
          go_wp2_with (exact bodyPost_ret (v := .tuple #[.agg #[.int .i64 (0), .int .i64 (0), .int .i64 (0), .slice none 0 0], .int .i64 (2)]) (by simp [results, Tryd.results10, go_sem, c0, c1, c2, c3]) rfl (by rw [HF.out]; exact ⟨_, rfl, r0, r1⟩))
        obtain ⟨q0, p1, p2, rfl⟩ : ∃ a b c, ps = [a, b, c] := by
          match ps, h3 with
          | [a, b, c], _ => exact ⟨a, b, c, rfl⟩
        have hq0 : q0 = _ := Option.some.inj HP0.out
        have HS1 := Lib.hid (Nat.le_trans (HPZ.out p1 (by simp)) HSZ.out)
        have HS2 := Lib.hid (Nat.le_trans (HPZ.out p2 (by simp)) HSZ.out)
        obtain ⟨x1, hc1, hx1⟩ := RdL_q HRK.out (k := 1) (x := .string p1) rfl
        obtain rfl : x1 = .string p1 := hx1.1
        obtain ⟨x2, hc2, hx2⟩ := RdL_q HRK.out (k := 2) (x := .string p2) rfl
        obtain rfl : x2 = .string p2 := hx2.1
        have HPP : Hid (parseP s.data.toList = pieceP [q0.data.toList, p1.data.toList, p2.data.toList]) := Lib.hid HPP0.out
        have HC2 := Lib.hid hc2
        have hcl3 : 3 ≤ cl := hcl
        have HKQ : Hid (kindP q0.data.toList = 1) := Lib.hid HK.out
        have HPW := Lib.hid (PW.mk HDK.out HZK.out HRK.out HBK.out (HV0.out.grow HBK.out))
        clear hc2 hx1 hx2 HPP0 HPZ HP0 h3 HK hpos hpos2 hpl2 hcl HDK HZK HBK HRK HC2
        go_wp2_with fail
        clear hc0 d0 d1 d2 d3 g0 g1 g2 g3 b0 b1 b2 b3 a0 a1 a2 a3 hwD hwE hwK
        refine wp_loop_rounds 3 ?_
        rw [rounds_succ]
        go_wp2_with fail
        clear hc1
        refine (atoi_any p1 (by have := HS1.out; omega) wK HPW.out.vs).mono ?_
        rintro e wa ⟨⟨v1, ev, rfl, hev⟩, hba⟩
        replace HPW := Lib.hid (HPW.out.grow hba)
        clear hba
        rcases hev with ⟨rfl, hok⟩ | ⟨⟨te, pe, rfl⟩, hnum⟩
        rotate_left
        · have HF : Hid (parseP s.data.toList = (zeroD, 2)) := Lib.hid (by rw [HPP.out]; exact piece_bad1 (.inl HKQ.out) (by rw [hnum]))
          clear hnum HPP
          go_wp2_with fail
          have HPZ := Lib.hid HPW.out.z
          have HPB := Lib.hid HPW.out.be
          rename ∀ (a : Act) (w : World), _ => hk0
          revert hk0
          repeat (rename ∀ (a : Act) (w : World), _ => hkk; clear hkk)
          intro hk0
          refine (ref_no (2) _).mono ?_
          rintro e wN ⟨rfl, hbN⟩
          have HZN := Lib.hid (HPZ.out.grow hbN)
          have HBN := Lib.hid (HPB.out.trans (hbN.mono HPB.out.size))
          clear hbN HPZ HPB
          have HEnd := Lib.hid (no_end HZN.out rfl HBN.out)
          obtain ⟨⟨z0, z1, z2, z3⟩, f0, f1, f2, f3⟩ := HZN.out.eight
          obtain ⟨wF, hwF⟩ : ∃ x, ((((wN.setCell ⟨w.heap.size, 0, none⟩ (.int .i64 0)).setCell ⟨w.heap.size, 1, none⟩ (.int .i64 0)).setCell ⟨w.heap.size, 2, none⟩ (.int .i64 0)).setCell ⟨w.heap.size, 3, none⟩ (.slice none 0 0)) = x := ⟨_, rfl⟩
          have HEnd' : Hid (Ends w wF (zeroD) (0) (0) (0) (.slice none 0 0)) := Lib.hid (hwF ▸ HEnd.out)
          clear HEnd
          obtain ⟨r0, r1, c0, c1, c2, c3⟩ := HEnd'.out
          go_wp2_with (exact bodyPost_ret (v := .tuple #[.agg #[.int .i64 (0), .int .i64 (0), .int .i64 (0), .slice none 0 0], .int .i64 (2)]) (by simp [results, Tryd.results10, go_sem, c0, c1, c2, c3]) rfl (by rw [HF.out]; exact ⟨_, rfl, r0, r1⟩))
        have hbd := Lib.atoiAll_bounds hok
        have HNUM := Lib.hid (num_ok hok)
        go_wp2_with fail
        refine (Tryd.strconv_Itoa v1 hbd.1 hbd.2 wa HPW.out.vs.tab).mono ?_
        rintro e wb ⟨rfl, kq, osq, hwb⟩
        have hbb : Below wa.heap.size wa wb := by rw [hwb]; exact Lib.below_grow _ wa (Nat.le_refl _) kq osq
        replace HPW := Lib.hid (HPW.out.grow hbb)
        have hcmp : ((⟨(Lib.itoa v1).toArray⟩ : ByteArray).toList == p1.toList) = (Lib.itoa v1 == p1.data.toList) := by rw [word_back, ByteArray.toList_eq]
        clear hbb hwb hok hbd
        generalize (⟨(Lib.itoa v1).toArray⟩ : ByteArray) = xi at *
        cases hsame : (Lib.itoa v1 == p1.data.toList)
        · have HF : Hid (parseP s.data.toList = (zeroD, 2)) := Lib.hid (by rw [HPP.out]; exact piece_bad1 (.inl HKQ.out) (by rw [HNUM.out, hsame]))
          rw [hsame] at hcmp
          have hcmp2 : (xi.toList != p1.toList) = true := by rw [bne, hcmp]; rfl
          clear HNUM HPP hsame
          go_wp2_with fail
          have HPZ := Lib.hid HPW.out.z
          have HPB := Lib.hid HPW.out.be
          rename ∀ (a : Act) (w : World), _ => hk0
          revert hk0
          repeat (rename ∀ (a : Act) (w : World), _ => hkk; clear hkk)
          intro hk0
          refine (ref_no (2) _).mono ?_
          rintro e wN ⟨rfl, hbN⟩
          have HZN := Lib.hid (HPZ.out.grow hbN)
          have HBN := Lib.hid (HPB.out.trans (hbN.mono HPB.out.size))
          clear hbN HPZ HPB
          have HEnd := Lib.hid (no_end HZN.out rfl HBN.out)
          obtain ⟨⟨z0, z1, z2, z3⟩, f0, f1, f2, f3⟩ := HZN.out.eight
          obtain ⟨wF, hwF⟩ : ∃ x, ((((wN.setCell ⟨w.heap.size, 0, none⟩ (.int .i64 0)).setCell ⟨w.heap.size, 1, none⟩ (.int .i64 0)).setCell ⟨w.heap.size, 2, none⟩ (.int .i64 0)).setCell ⟨w.heap.size, 3, none⟩ (.slice none 0 0)) = x := ⟨_, rfl⟩
          have HEnd' : Hid (Ends w wF (zeroD) (0) (0) (0) (.slice none 0 0)) := Lib.hid (hwF ▸ HEnd.out)
          clear HEnd
          obtain ⟨r0, r1, c0, c1, c2, c3⟩ := HEnd'.out
          go_wp2_with (exact bodyPost_ret (v := .tuple #[.agg #[.int .i64 (0), .int .i64 (0), .int .i64 (0), .slice none 0 0], .int .i64 (2)]) (by simp [results, Tryd.results10, go_sem, c0, c1, c2, c3]) rfl (by rw [HF.out]; exact ⟨_, rfl, r0, r1⟩))
        rw [hsame] at hcmp
        have hcmp2 : (xi.toList != p1.toList) = false := by rw [bne, hcmp]; rfl
        replace HNUM : Hid (numP p1.data.toList = (v1, true)) := Lib.hid (by rw [HNUM.out, hsame])
        obtain ⟨⟨b0, b1, b2, b3⟩, a0, a1, a2, a3⟩ := HPW.out.bd.eight
        have HPN := Lib.hid (HPW.out.put HV0.out hzl 1 (.int .i64 v1))
        obtain ⟨wc, hwc⟩ : ∃ x, wb.setCell ⟨BD, 1, none⟩ (.int .i64 v1) = x := ⟨_, rfl⟩
        rw [hwc] at HPN
        replace HPW : Hid (PW w wc BD bl ol cl [.int .i64 1, .int .i64 v1, .int .i64 0, .slice none 0 0] q0 p1 p2) := HPN
        clear HPN hsame
        obtain ⟨pc1, pc2⟩ := HPW.out.piece
        obtain ⟨⟨e0, e1, e2, e3⟩, y0, y1, y2, y3⟩ := HPW.out.bd.eight
        go_wp2_with fail
        rw [rounds_succ]
        clear hcmp hcmp2 b0 b1 b2 b3 a0 a1 a2 a3
        have hsz2 : p2.data.toList.length = p2.size := rfl
        by_cases hev : p2.size % 2 = 0
        rotate_left
        · have HF : Hid (parseP s.data.toList = (zeroD, 2)) := Lib.hid (by rw [HPP.out]; exact piece_odd HKQ.out (.inr (by rw [hsz2]; exact hev)))
          obtain ⟨hm1, hm2⟩ := odd_mod (q := p2.size) (by omega)
          clear HNUM HPP hev hsz2
          go_wp2_with fail
          clear e0 e1 e2 e3 y0 y1 y2 y3 pc1 pc2 hwc hm1 hm2
          have HPZ := Lib.hid HPW.out.z
          have HPB := Lib.hid HPW.out.be
          rename ∀ (a : Act) (w : World), _ => hk0
          revert hk0
          repeat (rename ∀ (a : Act) (w : World), _ => hkk; clear hkk)
          intro hk0
          refine (ref_no (2) _).mono ?_
          rintro e wN ⟨rfl, hbN⟩
          have HZN := Lib.hid (HPZ.out.grow hbN)
          have HBN := Lib.hid (HPB.out.trans (hbN.mono HPB.out.size))
          clear hbN HPZ HPB
          have HEnd := Lib.hid (no_end HZN.out rfl HBN.out)
          obtain ⟨⟨z0, z1, z2, z3⟩, f0, f1, f2, f3⟩ := HZN.out.eight
          obtain ⟨wF, hwF⟩ : ∃ x, ((((wN.setCell ⟨w.heap.size, 0, none⟩ (.int .i64 0)).setCell ⟨w.heap.size, 1, none⟩ (.int .i64 0)).setCell ⟨w.heap.size, 2, none⟩ (.int .i64 0)).setCell ⟨w.heap.size, 3, none⟩ (.slice none 0 0)) = x := ⟨_, rfl⟩
          have HEnd' : Hid (Ends w wF (zeroD) (0) (0) (0) (.slice none 0 0)) := Lib.hid (hwF ▸ HEnd.out)
          clear HEnd
          obtain ⟨r0, r1, c0, c1, c2, c3⟩ := HEnd'.out
          go_wp2_with (exact bodyPost_ret (v := .tuple #[.agg #[.int .i64 (0), .int .i64 (0), .int .i64 (0), .slice none 0 0], .int .i64 (2)]) (by simp [results, Tryd.results10, go_sem, c0, c1, c2, c3]) rfl (by rw [HF.out]; exact ⟨_, rfl, r0, r1⟩))
        obtain ⟨hm1, hm2⟩ := par_mod hev
        have HEV := Lib.hid (And.intro hev hsz2)
        have HPV : Hid (parseP s.data.toList = endP ⟨1, v1, 0, (hexP p2.data.toList).1⟩ (hexP p2.data.toList).2) := Lib.hid (by rw [HPP.out, piece_write HKQ.out (by rw [HNUM.out]) (by rw [hsz2]; exact hev), HNUM.out])
        clear HNUM HPP hev hsz2
        go_wp2_with fail
        clear e0 e1 e2 e3 y0 y1 y2 y3 pc1 pc2 hwc hm1 hm2
        go_loopw [13, 121] (fun nv i wr => ∃ (q : Nat) (acc : Int) (xs : Bs) (u : Value), nv = .int .i64 acc ∧ i = .int .i64 (q : Int) ∧ q ≤ p2.size ∧ Hx p2.data.toList q acc xs ∧ PW w wr BD bl ol cl [.int .i64 1, .int .i64 v1, .int .i64 0, u] q0 p1 p2 ∧ Bld R8 5 wr (BD + 1) (fun _ => True) u xs) (fun _ i _ => p2.size + 2 - (intOf i).toNat)
        case atStart => exact ⟨0, 0, [], _, rfl, rfl, Nat.zero_le _, hx_start _, HPW.out, Bld.nil_ _ _ _ _ _⟩
        case round =>
          rename World => wq
          clear HPW
          obtain ⟨q2, acc, xs, u, rfl, rfl, hq2, hx, hpw, hu⟩ := hrel
          have HX := Lib.hid hx
          have HPW := Lib.hid hpw
          have HU := Lib.hid hu
          have hacc := And.intro hx.2.1 hx.2.2.1
          obtain ⟨pc1, pc2⟩ := hpw.piece
          obtain ⟨⟨e0, e1, e2, e3⟩, y0, y1, y2, y3⟩ := hpw.bd.eight
          clear hx hpw hu
          by_cases hlt : q2 < p2.size
          · obtain ⟨ch, hch⟩ : ∃ c, p2[q2]'hlt = c := ⟨_, rfl⟩
            have HCH := Lib.hid hch
            have dl : decide ((q2 : Int) < (p2.size : Int)) = true := by simp; omega
            clear hq2
            go_wp2_with fail
            go_loopw [15, 124] (fun cv kv wk => ∃ (k : Nat), kv = .int .i64 (k : Int) ∧ k ≤ 16 ∧ cv = .int .i64 (hexTo ch k) ∧ Below wq.heap.size wq wk) (fun _ kv _ => 16 + 2 - (intOf kv).toNat)
            case atStart => exact ⟨0, rfl, Nat.zero_le _, rfl, Below.refl _ _⟩
            case round =>
              rename World => wk
              obtain ⟨k, rfl, hk, rfl, hbk⟩ := hrel
              have HBK := Lib.hid hbk
              clear hbk
              by_cases hk16 : k < 16
              · have dk : decide ((k : Int) < 16) = true := by simp; omega
                clear e0 e1 e2 e3 y0 y1 y2 y3 pc1
                go_wp2_with fail
                have kb := byte_eq (hexC k) ch
                have HT : Hid (hexTo ch (k + 1) = if decide (hexC k = ch) = true then (k : Int) else hexTo ch k) := Lib.hid (hexTo_next ch k)
                generalize decide (hexC k = ch) = bk at *
                refine region_list [Cv (.int .i64 (k : Int)), Cv (.int .u8 (((hexC k).toNat : Nat) : Int)), Cv (.slice (some ⟨bl, ol, none⟩) 3 cl), Cv (.pointer (some ⟨bl, ol + 2, none⟩)), Cv (.string p2), Cv (.int .i64 (q2 : Int)), Cv (.int .u8 ((ch.toNat : Nat) : Int)), Cv (.bool bk)] (by kernel_rfl) (by kernel_rfl) (by kernel_rfl) ?_ ?_ ?_
                · repeat (first | exact trivial | refine ⟨mC _, ?_⟩ | refine ⟨mR okB _, ?_⟩ | refine ⟨mT, ?_⟩ | refine ⟨mR okBB _, ?_⟩ | refine ⟨mR okBBB _, ?_⟩ | refine ⟨mR (okL okI) _, ?_⟩ | refine ⟨mKt _, ?_⟩ | refine ⟨mRa _ _, ?_⟩)
                · simp only [StepsL]
                  refine ⟨?_, ?_, ?_, ?_, ?_, ?_, ?_, ?_, trivial⟩
                  · intro ys wx hw hd K hK
                    simp only [putL, Act.put, List.setIfInBounds_toArray, List.set_cons_zero, List.set_cons_succ, Nat.zero_add, Nat.reduceAdd] at hK ⊢
                    rw [if_pos (by rfl)]
                    go_simp
                    exact hK _ _ (Below.refl _ _) rfl
                  · intro ys wx hw hd K hK
                    have e0 : ys 0 = _ := hd 0 (by decide)
                    simp only [putL, Act.put, List.setIfInBounds_toArray, List.set_cons_zero, List.set_cons_succ, Nat.zero_add, Nat.reduceAdd, e0] at hK ⊢
                    rw [if_pos (by rfl)]
                    have r0 : (0 : Int) ≤ k := by omega
                    have r1 : (k : Int) < 16 := by omega
                    have r2 : (k : Int).toNat = k := by omega
                    go_simp
                    exact hK _ _ (Below.refl _ _) (hexC_val hk16)
                  · intro ys wx hw hd K hK
                    simp only [putL, Act.put, List.setIfInBounds_toArray, List.set_cons_zero, List.set_cons_succ, Nat.zero_add, Nat.reduceAdd] at hK ⊢
                    rw [if_pos (by rfl)]
                    go_simp
                    exact hK _ _ (Below.refl _ _) rfl
                  · intro ys wx hw hd K hK
                    have e2 : ys 2 = _ := hd 2 (by decide)
                    simp only [putL, Act.put, List.setIfInBounds_toArray, List.set_cons_zero, List.set_cons_succ, Nat.zero_add, Nat.reduceAdd, e2] at hK ⊢
                    rw [if_pos (by rfl)]
                    go_simp
                    exact hK _ _ (Below.refl _ _) rfl
                  · intro ys wx hw hd K hK
                    have e3 : ys 3 = _ := hd 3 (by decide)
                    simp only [putL, Act.put, List.setIfInBounds_toArray, List.set_cons_zero, List.set_cons_succ, Nat.zero_add, Nat.reduceAdd, e3] at hK ⊢
                    rw [if_pos (by rfl)]
                    have kx := ((HBK.out.trans (hw.mono HBK.out.size)).cell (World.block_lt_of_cell? _ _ pc2)).trans pc2
                    go_simp
                    exact hK _ _ (Below.refl _ _) rfl
                  · intro ys wx hw hd K hK
                    simp only [putL, Act.put, List.setIfInBounds_toArray, List.set_cons_zero, List.set_cons_succ, Nat.zero_add, Nat.reduceAdd] at hK ⊢
                    rw [if_pos (by rfl)]
                    go_simp
                    exact hK _ _ (Below.refl _ _) rfl
                  · intro ys wx hw hd K hK
                    have e4 : ys 4 = _ := hd 4 (by decide)
                    have e5 : ys 5 = _ := hd 5 (by decide)
                    simp only [putL, Act.put, List.setIfInBounds_toArray, List.set_cons_zero, List.set_cons_succ, Nat.zero_add, Nat.reduceAdd, e4, e5] at hK ⊢
                    rw [if_pos (by rfl)]
                    have r0 : (0 : Int) ≤ q2 := by omega
                    have r1 : (q2 : Int) < p2.size := by omega
                    have r2 : (q2 : Int).toNat = q2 := by omega
                    have r3 := HCH.out
                    go_simp
                    exact hK _ _ (Below.refl _ _) rfl
                  · intro ys wx hw hd K hK
                    have e1 : ys 1 = _ := hd 1 (by decide)
                    have e6 : ys 6 = _ := hd 6 (by decide)
                    simp only [putL, Act.put, List.setIfInBounds_toArray, List.set_cons_zero, List.set_cons_succ, Nat.zero_add, Nat.reduceAdd, e1, e6] at hK ⊢
                    rw [if_pos (by rfl)]
                    go_simp
                    exact hK _ _ (Below.refl _ _) rfl
                · intro ys w' hl' hV
                  have e7 : ys 7 = _ := hV 7 (by decide)
                  clear hV
                  simp only [putL, Act.put, List.setIfInBounds_toArray, List.set_cons_zero, List.set_cons_succ, Nat.zero_add, Nat.reduceAdd, e7]
                  clear e7
                  have HBK2 := Lib.hid (HBK.out.trans (hl'.mono HBK.out.size))
                  clear hl' HBK kb
                  have hws := (wrap_succ (j := k) (by omega))
                  cases bk
                  · rw [if_neg Bool.false_ne_true] at HT
                    go_wp2
                    go_roundw
                    case rel => exact ⟨k + 1, cast_succ k, hk16, by rw [HT.out], HBK2.out⟩
                    case measure => exact meas_succ hk
                  · rw [if_pos rfl] at HT
                    go_wp2
                    go_roundw
                    case rel => exact ⟨k + 1, cast_succ k, hk16, by rw [HT.out], HBK2.out⟩
                    case measure => exact meas_succ hk
              obtain rfl : k = 16 := by omega
              rw [hexTo_end]
              have hbd := hexA_bounds ch
              have HXA : Hid (∀ h : 0 ≤ hexA ch, True) := Lib.hid fun _ => trivial
              have HPK := Lib.hid (HPW.out.grow HBK.out)
              have HUK := Lib.hid (HU.out.grow ok8 HBK.out)
              have HL2 := Lib.hid (show q2 < p2.data.toList.length from hlt)
              have HC2 : Hid (p2.data.toList[q2]'HL2.out = ch) := Lib.hid hch
              clear e0 e1 e2 e3 y0 y1 y2 y3 pc1 pc2 HXA hk
              by_cases hneg : hexA ch < 0
              · have HF : Hid (parseP s.data.toList = (zeroD, 2)) := Lib.hid (by
                  rw [HPV.out, hx_bad HX.out HL2.out (by rw [HEV.out.2]; exact HEV.out.1) HC2.out hneg]
                  rfl)
                have dn : decide (hexA ch < 0) = true := decide_eq_true hneg
                generalize hexA ch = hx at *
                clear hneg HPV
                have HPZ := Lib.hid HPK.out.z
                have HPB := Lib.hid HPK.out.be
                go_wp2_with fail
                rename ∀ (a : Act) (w : World), _ => hk0
                revert hk0
                repeat (rename ∀ (a : Act) (w : World), _ => hkk; clear hkk)
                intro hk0
                refine (ref_no (2) _).mono ?_
                rintro e wN ⟨rfl, hbN⟩
                have HZN := Lib.hid (HPZ.out.grow hbN)
                have HBN := Lib.hid (HPB.out.trans (hbN.mono HPB.out.size))
                clear hbN HPZ HPB
                have HEnd := Lib.hid (no_end HZN.out rfl HBN.out)
                obtain ⟨⟨z0, z1, z2, z3⟩, f0, f1, f2, f3⟩ := HZN.out.eight
                obtain ⟨wF, hwF⟩ : ∃ x, ((((wN.setCell ⟨w.heap.size, 0, none⟩ (.int .i64 0)).setCell ⟨w.heap.size, 1, none⟩ (.int .i64 0)).setCell ⟨w.heap.size, 2, none⟩ (.int .i64 0)).setCell ⟨w.heap.size, 3, none⟩ (.slice none 0 0)) = x := ⟨_, rfl⟩
                have HEnd' : Hid (Ends w wF (zeroD) (0) (0) (0) (.slice none 0 0)) := Lib.hid (hwF ▸ HEnd.out)
                clear HEnd
                obtain ⟨r0, r1, c0, c1, c2, c3⟩ := HEnd'.out
                go_wp2_with (exact bodyPost_ret (v := .tuple #[.agg #[.int .i64 (0), .int .i64 (0), .int .i64 (0), .slice none 0 0], .int .i64 (2)]) (by simp [results, Tryd.results10, go_sem, c0, c1, c2, c3]) rfl (by rw [HF.out]; exact ⟨_, rfl, r0, r1⟩))
              have hge : 0 ≤ hexA ch := by omega
              have dn : decide (hexA ch < 0) = false := decide_eq_false hneg
              obtain ⟨aw1, aw2, aw3⟩ := acc_wrap hacc.1 hacc.2 hge hbd.2
              obtain ⟨qw1, qw2, qw3⟩ := wrap_succ (j := q2) (Nat.le_trans (Nat.le_of_lt hlt) (Nat.le_succ_of_le HS2.out))
              clear hneg
              by_cases hpar : q2 % 2 = 0
              · obtain ⟨hm1, hm2⟩ := par_mod hpar
                have HN := Lib.hid (hx_first HX.out HL2.out hpar HC2.out hge)
                generalize hexA ch = hx at *
                clear hpar hge hbd aw3
                go_wp2
                go_roundw
                case rel => exact ⟨q2 + 1, 16 * acc + hx, xs, u, by first | rfl | exact congrArg (Value.int .i64) aw2, cast_succ q2, hlt, HN.out, HPK.out, HUK.out⟩
                case measure => exact meas_succ (Nat.le_of_lt hlt)
              · have hodd := odd_of hpar
                obtain ⟨hm1, hm2⟩ := odd_mod hodd
                have HN := Lib.hid (hx_second HX.out HL2.out hodd HC2.out hge)
                generalize hexA ch = hx at *
                obtain ⟨bt, hbt⟩ : ∃ b, UInt8.ofNat (16 * acc + hx).toNat = b := ⟨_, rfl⟩
                rw [hbt] at HN aw3
                have aw4 : wrap64 (16 * acc + hx) % 256 = ((bt.toNat : Nat) : Int) := by rw [aw2]; exact aw3
                have hszk : BD + 1 ≤ wk.heap.size := HPK.out.bd.lt
                have HT := Lib.hid (hx_room HX.out HL2.out HS2.out)
                obtain ⟨⟨e0, e1, e2, e3⟩, y0, y1, y2, y3⟩ := HPK.out.bd.eight
                clear hpar hodd hge hbd hbt
                go_wp2_with (at_builtin; refine wpList_append_bld _ rfl _ _ 22 (by rfl) ok8 slB (BD + 1) (fun _ => True) u _ xs [bt] (by rfl) (by rfl) (Bld.alloc ok8 HUK.out _) (src_one ok8 HUK.out trivial rfl _ rfl) HT.out ?c2 ?c3)
                case c2 => first | exact Nat.le_succ_of_le hszk | (rw [alloc_size]; exact Nat.le_succ_of_le hszk)
                case c3 =>
                intro v' w' r1 r2 r3 r4
                obtain ⟨A', c', rfl, _, _⟩ := ((r1.bytes (G' := fun _ => False)).toRd ok8 (F := fun k => BD + 1 ≤ k) (fun _ hk => hk) (fun _ h => h.elim)).shape
                obtain ⟨n', hn'⟩ : ∃ n', (xs ++ [bt]).length = n' := ⟨_, rfl⟩
                rw [hn'] at r1 ⊢
                have hal := below_alloc wk (.cells #[.int .u8 ((bt.toNat : Nat) : Int)] 5)
                have hb' := (hal.mono hszk).trans r2
                have hp2 := HPK.out.below HV0.out hzl hb'
                have hU3 := ((r1.bytes (G' := fun _ => False)).setc ok8 (b := BD) (j := 3) (v := .slice A' n' c') (fun k hk => by have := (r1.blk k hk).1; omega) (fun _ h => h.elim)).bytes (G' := fun _ => True)
                obtain ⟨⟨b0, b1, b2, b3⟩, a0, a1, a2, a3⟩ := hp2.bd.eight
                have HF := Lib.hid (And.intro (hp2.put HV0.out hzl 3 (.slice A' n' c')) hU3)
                clear hn' r1 r2 r3 r4 hal hb' hp2 hU3 e0 e1 e2 e3 y0 y1 y2 y3
                go_wp2
                go_roundw
                case rel => exact ⟨q2 + 1, 0, xs ++ [bt], .slice A' n' c', rfl, cast_succ q2, hlt, HN.out, HF.out.1, HF.out.2⟩
                case measure => exact meas_succ (Nat.le_of_lt hlt)
          have hhp := hx_par HEV.out.2 HEV.out.1 hq2 hlt
          have hhx := hx_end HX.out hhp.1 hhp.2
          have HPE : Hid (parseP s.data.toList = endP ⟨1, v1, 0, xs⟩ true) := Lib.hid (by rw [HPV.out, hhx])
          have dl : decide ((q2 : Int) < (p2.size : Int)) = false := by simp; omega
          have hrd : RdB wq (fun k => BD + 1 ≤ k) u xs := (HU.out.bytes (G' := fun _ => False)).toRd ok8 (F := fun k => BD + 1 ≤ k) (fun _ hk => hk) (fun _ h => h.elim)
          obtain ⟨Au, cu, rfl, _, _⟩ := hrd.shape
          have HRD := Lib.hid hrd
          clear hrd hhx HPV HU hacc HX hhp
          go_wp2_with fail
          clear e0 e1 e2 e3 y0 y1 y2 y3 pc1 pc2 dl
          refine (ref_Wrong ⟨1, v1, 0, xs⟩ _ _ wq ⟨_, rfl, HRD.out⟩).mono ?_
          rintro e wt ⟨rfl, hbt⟩
          have HRT := Lib.hid (okB.grow HRD.out hbt)
          replace HPW := Lib.hid (HPW.out.grow hbt)
          clear hbt HRD
          obtain ⟨⟨e0, e1, e2, e3⟩, y0, y1, y2, y3⟩ := HPW.out.bd.eight
          have HPZ := Lib.hid HPW.out.z
          have HPB := Lib.hid HPW.out.be
          by_cases hr : wrongI ⟨1, v1, 0, xs⟩ = 0
          · have HE : Hid (parseP s.data.toList = (⟨1, v1, 0, xs⟩, 0)) := Lib.hid (by rw [HPE.out]; unfold endP; rw [if_neg (by decide), if_neg (by simpa using hr)])
            rw [hr]
            clear hr HPE
            have HEnd := Lib.hid (put_end ⟨1, v1, 0, xs⟩ (.slice Au xs.length cu) HPZ.out rfl HPB.out HRT.out (fun k hk => by omega))
            obtain ⟨⟨z0, z1, z2, z3⟩, f0, f1, f2, f3⟩ := HPZ.out.eight
            obtain ⟨wF, hwF⟩ : ∃ x, ((((wt.setCell ⟨w.heap.size, 0, none⟩ (.int .i64 1)).setCell ⟨w.heap.size, 1, none⟩ (.int .i64 v1)).setCell ⟨w.heap.size, 2, none⟩ (.int .i64 0)).setCell ⟨w.heap.size, 3, none⟩ (.slice Au xs.length cu)) = x := ⟨_, rfl⟩
            have HEnd' : Hid (Ends w wF (⟨1, v1, 0, xs⟩) (1) (v1) (0) (.slice Au xs.length cu)) := Lib.hid (hwF ▸ HEnd.out)
            clear HEnd
            obtain ⟨r0, r1, c0, c1, c2, c3⟩ := HEnd'.out
            go_wp2_with (exact bodyPost_ret (v := .tuple #[.agg #[.int .i64 (1), .int .i64 (v1), .int .i64 (0), .slice Au xs.length cu], .int .i64 (0)]) (by simp [results, Tryd.results10, go_sem, c0, c1, c2, c3]) rfl (by rw [HE.out]; exact ⟨_, rfl, r0, r1⟩))
          · have HE : Hid (parseP s.data.toList = (zeroD, wrongI ⟨1, v1, 0, xs⟩)) := Lib.hid (by rw [HPE.out]; unfold endP; rw [if_neg (by decide), if_pos (by simpa using hr)])
            have hne2 : (wrongI ⟨1, v1, 0, xs⟩ != 0) = true := by simpa using hr
            generalize wrongI ⟨1, v1, 0, xs⟩ = er at *
            clear hr HPE
            go_wp2_with fail
            clear e0 e1 e2 e3 y0 y1 y2 y3
            rename ∀ (a : Act) (w : World), _ => hk0
            revert hk0
            repeat (rename ∀ (a : Act) (w : World), _ => hkk; clear hkk)
            intro hk0
            refine (ref_no (er) _).mono ?_
            rintro e wN ⟨rfl, hbN⟩
            have HZN := Lib.hid (HPZ.out.grow hbN)
            have HBN := Lib.hid (HPB.out.trans (hbN.mono HPB.out.size))
            clear hbN HPZ HPB
            have HEnd := Lib.hid (no_end HZN.out rfl HBN.out)
            obtain ⟨⟨z0, z1, z2, z3⟩, f0, f1, f2, f3⟩ := HZN.out.eight
            obtain ⟨wF, hwF⟩ : ∃ x, ((((wN.setCell ⟨w.heap.size, 0, none⟩ (.int .i64 0)).setCell ⟨w.heap.size, 1, none⟩ (.int .i64 0)).setCell ⟨w.heap.size, 2, none⟩ (.int .i64 0)).setCell ⟨w.heap.size, 3, none⟩ (.slice none 0 0)) = x := ⟨_, rfl⟩
            have HEnd' : Hid (Ends w wF (zeroD) (0) (0) (0) (.slice none 0 0)) := Lib.hid (hwF ▸ HEnd.out)
            clear HEnd
            obtain ⟨r0, r1, c0, c1, c2, c3⟩ := HEnd'.out
            go_wp2_with (exact bodyPost_ret (v := .tuple #[.agg #[.int .i64 (0), .int .i64 (0), .int .i64 (0), .slice none 0 0], .int .i64 (er)]) (by simp [results, Tryd.results10, go_sem, c0, c1, c2, c3]) rfl (by rw [HE.out]; exact ⟨_, rfl, r0, r1⟩))
      · have HK := Lib.hid (HK0.out.trans hK)
        subst hw0
        have hKD : BoxAt (wE.setCell ⟨BD, 0, none⟩ (.int .i64 2)) BD 24 [.int .i64 2, .int .i64 0, .int .i64 0, .slice none 0 0] := HD2.out.set_ 0 (.int .i64 2)
        have hKZ := HZ2.out.far (b' := BD) (j := 0) (v := .int .i64 2) hne
        have hKB := HB2.out.setCell (p := ⟨BD, 0, none⟩) (Nat.le_of_lt hzl) (.int .i64 2)
        have hKR := okRVL.setc HR2.out (b := BD) (j := 0) (v := .int .i64 2) fun k hk => Nat.ne_of_lt hk.2
        obtain ⟨wK, hwK⟩ : ∃ x, wE.setCell ⟨BD, 0, none⟩ (.int .i64 2) = x := ⟨_, rfl⟩
        rw [hwK] at hKD hKZ hKB hKR
        have HDK := Lib.hid hKD
        have HZK := Lib.hid hKZ
        have HBK := Lib.hid hKB
        have HRK := Lib.hid hKR
        clear hKD hKZ hKB hKR hK HK0 HD2 HZ2 HB2 HR2
        by_cases h3 : ps.length = 3
        rotate_left
        · have HF : Hid (parseP s.data.toList = (zeroD, 2)) := Lib.hid (by rw [HPP0.out]; exact piece_form (by rw [HK.out]; decide) (by rw [List.length_map]; exact h3))
          have hne3 : ((ps.length : Int) != 3) = true := by rw [bne_iff_ne]; omega
          clear HPP0 HPZ HP0 h3 HK HRK
          go_wp2_with fail
          clear hc0 d0 d1 d2 d3 g0 g1 g2 g3 b0 b1 b2 b3 a0 a1 a2 a3 hwD hwE hwK
          rename ∀ (a : Act) (w : World), _ => hk0
          revert hk0
          repeat (rename ∀ (a : Act) (w : World), _ => hkk; clear hkk)
          intro hk0
          refine (ref_no (2) _).mono ?_
          rintro e wN ⟨rfl, hbN⟩
          have HZN := Lib.hid (HZK.out.grow hbN)
          have HBN := Lib.hid (HBK.out.trans (hbN.mono HBK.out.size))
          clear hbN HZK HBK
          have HEnd := Lib.hid (no_end HZN.out rfl HBN.out)
          obtain ⟨⟨z0, z1, z2, z3⟩, f0, f1, f2, f3⟩ := HZN.out.eight
          obtain ⟨wF, hwF⟩ : ∃ x, ((((wN.setCell ⟨w.heap.size, 0, none⟩ (.int .i64 0)).setCell ⟨w.heap.size, 1, none⟩ (.int .i64 0)).setCell ⟨w.heap.size, 2, none⟩ (.int .i64 0)).setCell ⟨w.heap.size, 3, none⟩ (.slice none 0 0)) = x := ⟨_, rfl⟩
          have HEnd' : Hid (Ends w wF (zeroD) (0) (0) (0) (.slice none 0 0)) := Lib.hid (hwF ▸ HEnd.out)
          clear HEnd
          obtain ⟨r0, r1, c0, c1, c2, c3⟩ := HEnd'.out
          go_wp2_with (exact bodyPost_ret (v := .tuple #[.agg #[.int .i64 (0), .int .i64 (0), .int .i64 (0), .slice none 0 0], .int .i64 (2)]) (by simp [results, Tryd.results10, go_sem, c0, c1, c2, c3]) rfl (by rw [HF.out]; exact ⟨_, rfl, r0, r1⟩))
        obtain ⟨q0, p1, p2, rfl⟩ : ∃ a b c, ps = [a, b, c] := by
          match ps, h3 with
          | [a, b, c], _ => exact ⟨a, b, c, rfl⟩
        have hq0 : q0 = _ := Option.some.inj HP0.out
        have HS1 := Lib.hid (Nat.le_trans (HPZ.out p1 (by simp)) HSZ.out)
        have HS2 := Lib.hid (Nat.le_trans (HPZ.out p2 (by simp)) HSZ.out)
        obtain ⟨x1, hc1, hx1⟩ := RdL_q HRK.out (k := 1) (x := .string p1) rfl
        obtain rfl : x1 = .string p1 := hx1.1
        obtain ⟨x2, hc2, hx2⟩ := RdL_q HRK.out (k := 2) (x := .string p2) rfl
        obtain rfl : x2 = .string p2 := hx2.1
        have HPP : Hid (parseP s.data.toList = pieceP [q0.data.toList, p1.data.toList, p2.data.toList]) := Lib.hid HPP0.out
        have HC2 := Lib.hid hc2
        have hcl3 : 3 ≤ cl := hcl
        have HKQ : Hid (kindP q0.data.toList = 2) := Lib.hid HK.out
        have HPW := Lib.hid (PW.mk HDK.out HZK.out HRK.out HBK.out (HV0.out.grow HBK.out))
        clear hc2 hx1 hx2 HPP0 HPZ HP0 h3 HK hpos hpos2 hpl2 hcl HDK HZK HBK HRK HC2
        go_wp2_with fail
        clear hc0 d0 d1 d2 d3 g0 g1 g2 g3 b0 b1 b2 b3 a0 a1 a2 a3 hwD hwE hwK
        refine wp_loop_rounds 3 ?_
        rw [rounds_succ]
        go_wp2_with fail
        clear hc1
        refine (atoi_any p1 (by have := HS1.out; omega) wK HPW.out.vs).mono ?_
        rintro e wa ⟨⟨v1, ev, rfl, hev⟩, hba⟩
        replace HPW := Lib.hid (HPW.out.grow hba)
        clear hba
        rcases hev with ⟨rfl, hok⟩ | ⟨⟨te, pe, rfl⟩, hnum⟩
        rotate_left
        · have HF : Hid (parseP s.data.toList = (zeroD, 2)) := Lib.hid (by rw [HPP.out]; exact piece_bad1 (.inr HKQ.out) (by rw [hnum]))
          clear hnum HPP
          go_wp2_with fail
          have HPZ := Lib.hid HPW.out.z
          have HPB := Lib.hid HPW.out.be
          rename ∀ (a : Act) (w : World), _ => hk0
          revert hk0
          repeat (rename ∀ (a : Act) (w : World), _ => hkk; clear hkk)
          intro hk0
          refine (ref_no (2) _).mono ?_
          rintro e wN ⟨rfl, hbN⟩
          have HZN := Lib.hid (HPZ.out.grow hbN)
          have HBN := Lib.hid (HPB.out.trans (hbN.mono HPB.out.size))
          clear hbN HPZ HPB
          have HEnd := Lib.hid (no_end HZN.out rfl HBN.out)
          obtain ⟨⟨z0, z1, z2, z3⟩, f0, f1, f2, f3⟩ := HZN.out.eight
          obtain ⟨wF, hwF⟩ : ∃ x, ((((wN.setCell ⟨w.heap.size, 0, none⟩ (.int .i64 0)).setCell ⟨w.heap.size, 1, none⟩ (.int .i64 0)).setCell ⟨w.heap.size, 2, none⟩ (.int .i64 0)).setCell ⟨w.heap.size, 3, none⟩ (.slice none 0 0)) = x := ⟨_, rfl⟩
          have HEnd' : Hid (Ends w wF (zeroD) (0) (0) (0) (.slice none 0 0)) := Lib.hid (hwF ▸ HEnd.out)
          clear HEnd
          obtain ⟨r0, r1, c0, c1, c2, c3⟩ := HEnd'.out
          go_wp2_with (exact bodyPost_ret (v := .tuple #[.agg #[.int .i64 (0), .int .i64 (0), .int .i64 (0), .slice none 0 0], .int .i64 (2)]) (by simp [results, Tryd.results10, go_sem, c0, c1, c2, c3]) rfl (by rw [HF.out]; exact ⟨_, rfl, r0, r1⟩))
        have hbd := Lib.atoiAll_bounds hok
        have HNUM := Lib.hid (num_ok hok)
        go_wp2_with fail
        refine (Tryd.strconv_Itoa v1 hbd.1 hbd.2 wa HPW.out.vs.tab).mono ?_
        rintro e wb ⟨rfl, kq, osq, hwb⟩
        have hbb : Below wa.heap.size wa wb := by rw [hwb]; exact Lib.below_grow _ wa (Nat.le_refl _) kq osq
        replace HPW := Lib.hid (HPW.out.grow hbb)
        have hcmp : ((⟨(Lib.itoa v1).toArray⟩ : ByteArray).toList == p1.toList) = (Lib.itoa v1 == p1.data.toList) := by rw [word_back, ByteArray.toList_eq]
        clear hbb hwb hok hbd
        generalize (⟨(Lib.itoa v1).toArray⟩ : ByteArray) = xi at *
        cases hsame : (Lib.itoa v1 == p1.data.toList)
        · have HF : Hid (parseP s.data.toList = (zeroD, 2)) := Lib.hid (by rw [HPP.out]; exact piece_bad1 (.inr HKQ.out) (by rw [HNUM.out, hsame]))
          rw [hsame] at hcmp
          have hcmp2 : (xi.toList != p1.toList) = true := by rw [bne, hcmp]; rfl
          clear HNUM HPP hsame
          go_wp2_with fail
          have HPZ := Lib.hid HPW.out.z
          have HPB := Lib.hid HPW.out.be
          rename ∀ (a : Act) (w : World), _ => hk0
          revert hk0
          repeat (rename ∀ (a : Act) (w : World), _ => hkk; clear hkk)
          intro hk0
          refine (ref_no (2) _).mono ?_
          rintro e wN ⟨rfl, hbN⟩
          have HZN := Lib.hid (HPZ.out.grow hbN)
          have HBN := Lib.hid (HPB.out.trans (hbN.mono HPB.out.size))
          clear hbN HPZ HPB
          have HEnd := Lib.hid (no_end HZN.out rfl HBN.out)
          obtain ⟨⟨z0, z1, z2, z3⟩, f0, f1, f2, f3⟩ := HZN.out.eight
          obtain ⟨wF, hwF⟩ : ∃ x, ((((wN.setCell ⟨w.heap.size, 0, none⟩ (.int .i64 0)).setCell ⟨w.heap.size, 1, none⟩ (.int .i64 0)).setCell ⟨w.heap.size, 2, none⟩ (.int .i64 0)).setCell ⟨w.heap.size, 3, none⟩ (.slice none 0 0)) = x := ⟨_, rfl⟩
          have HEnd' : Hid (Ends w wF (zeroD) (0) (0) (0) (.slice none 0 0)) := Lib.hid (hwF ▸ HEnd.out)
          clear HEnd
          obtain ⟨r0, r1, c0, c1, c2, c3⟩ := HEnd'.out
          go_wp2_with (exact bodyPost_ret (v := .tuple #[.agg #[.int .i64 (0), .int .i64 (0), .int .i64 (0), .slice none 0 0], .int .i64 (2)]) (by simp [results, Tryd.results10, go_sem, c0, c1, c2, c3]) rfl (by rw [HF.out]; exact ⟨_, rfl, r0, r1⟩))
        rw [hsame] at hcmp
        have hcmp2 : (xi.toList != p1.toList) = false := by rw [bne, hcmp]; rfl
        replace HNUM : Hid (numP p1.data.toList = (v1, true)) := Lib.hid (by rw [HNUM.out, hsame])
        obtain ⟨⟨b0, b1, b2, b3⟩, a0, a1, a2, a3⟩ := HPW.out.bd.eight
        have HPN := Lib.hid (HPW.out.put HV0.out hzl 1 (.int .i64 v1))
        obtain ⟨wc, hwc⟩ : ∃ x, wb.setCell ⟨BD, 1, none⟩ (.int .i64 v1) = x := ⟨_, rfl⟩
        rw [hwc] at HPN
        replace HPW : Hid (PW w wc BD bl ol cl [.int .i64 2, .int .i64 v1, .int .i64 0, .slice none 0 0] q0 p1 p2) := HPN
        clear HPN hsame
        obtain ⟨pc1, pc2⟩ := HPW.out.piece
        obtain ⟨⟨e0, e1, e2, e3⟩, y0, y1, y2, y3⟩ := HPW.out.bd.eight
        go_wp2_with fail
        rw [rounds_succ]
        clear hcmp hcmp2 b0 b1 b2 b3 a0 a1 a2 a3
        clear e0 e1 e2 e3 y0 y1 y2 y3
        obtain ⟨⟨e0, e1, e2, e3⟩, y0, y1, y2, y3⟩ := HPW.out.bd.eight
        have HNUM1 := HNUM
        clear HNUM
        go_wp2_with fail
        clear e0 e1 e2 e3 y0 y1 y2 y3 pc1 pc2 hwc
        refine (atoi_any p2 (by have := HS2.out; omega) wc HPW.out.vs).mono ?_
        rintro e wa ⟨⟨v2, ev, rfl, hev⟩, hba⟩
        replace HPW := Lib.hid (HPW.out.grow hba)
        clear hba
        rcases hev with ⟨rfl, hok⟩ | ⟨⟨te, pe, rfl⟩, hnum⟩
        rotate_left
        · have HF : Hid (parseP s.data.toList = (zeroD, 2)) := Lib.hid (by rw [HPP.out]; exact piece_bad2 HKQ.out (by rw [hnum]))
          clear hnum HPP
          go_wp2_with fail
          have HPZ := Lib.hid HPW.out.z
          have HPB := Lib.hid HPW.out.be
          rename ∀ (a : Act) (w : World), _ => hk0
          revert hk0
          repeat (rename ∀ (a : Act) (w : World), _ => hkk; clear hkk)
          intro hk0
          refine (ref_no (2) _).mono ?_
          rintro e wN ⟨rfl, hbN⟩
          have HZN := Lib.hid (HPZ.out.grow hbN)
          have HBN := Lib.hid (HPB.out.trans (hbN.mono HPB.out.size))
          clear hbN HPZ HPB
          have HEnd := Lib.hid (no_end HZN.out rfl HBN.out)
          obtain ⟨⟨z0, z1, z2, z3⟩, f0, f1, f2, f3⟩ := HZN.out.eight
          obtain ⟨wF, hwF⟩ : ∃ x, ((((wN.setCell ⟨w.heap.size, 0, none⟩ (.int .i64 0)).setCell ⟨w.heap.size, 1, none⟩ (.int .i64 0)).setCell ⟨w.heap.size, 2, none⟩ (.int .i64 0)).setCell ⟨w.heap.size, 3, none⟩ (.slice none 0 0)) = x := ⟨_, rfl⟩
          have HEnd' : Hid (Ends w wF (zeroD) (0) (0) (0) (.slice none 0 0)) := Lib.hid (hwF ▸ HEnd.out)
          clear HEnd
          obtain ⟨r0, r1, c0, c1, c2, c3⟩ := HEnd'.out
          go_wp2_with (exact bodyPost_ret (v := .tuple #[.agg #[.int .i64 (0), .int .i64 (0), .int .i64 (0), .slice none 0 0], .int .i64 (2)]) (by simp [results, Tryd.results10, go_sem, c0, c1, c2, c3]) rfl (by rw [HF.out]; exact ⟨_, rfl, r0, r1⟩))
        have hbd := Lib.atoiAll_bounds hok
        have HNUM := Lib.hid (num_ok hok)
        go_wp2_with fail
        refine (Tryd.strconv_Itoa v2 hbd.1 hbd.2 wa HPW.out.vs.tab).mono ?_
        rintro e wb ⟨rfl, kq, osq, hwb⟩
        have hbb : Below wa.heap.size wa wb := by rw [hwb]; exact Lib.below_grow _ wa (Nat.le_refl _) kq osq
        replace HPW := Lib.hid (HPW.out.grow hbb)
        have hcmp : ((⟨(Lib.itoa v2).toArray⟩ : ByteArray).toList == p2.toList) = (Lib.itoa v2 == p2.data.toList) := by rw [word_back, ByteArray.toList_eq]
        clear hbb hwb hok hbd
        generalize (⟨(Lib.itoa v2).toArray⟩ : ByteArray) = xi at *
        cases hsame : (Lib.itoa v2 == p2.data.toList)
        · have HF : Hid (parseP s.data.toList = (zeroD, 2)) := Lib.hid (by rw [HPP.out]; exact piece_bad2 HKQ.out (by rw [HNUM.out, hsame]))
          rw [hsame] at hcmp
          have hcmp2 : (xi.toList != p2.toList) = true := by rw [bne, hcmp]; rfl
          clear HNUM HPP hsame
          go_wp2_with fail
          have HPZ := Lib.hid HPW.out.z
          have HPB := Lib.hid HPW.out.be
          rename ∀ (a : Act) (w : World), _ => hk0
          revert hk0
          repeat (rename ∀ (a : Act) (w : World), _ => hkk; clear hkk)
          intro hk0
          refine (ref_no (2) _).mono ?_
          rintro e wN ⟨rfl, hbN⟩
          have HZN := Lib.hid (HPZ.out.grow hbN)
          have HBN := Lib.hid (HPB.out.trans (hbN.mono HPB.out.size))
          clear hbN HPZ HPB
          have HEnd := Lib.hid (no_end HZN.out rfl HBN.out)
          obtain ⟨⟨z0, z1, z2, z3⟩, f0, f1, f2, f3⟩ := HZN.out.eight
          obtain ⟨wF, hwF⟩ : ∃ x, ((((wN.setCell ⟨w.heap.size, 0, none⟩ (.int .i64 0)).setCell ⟨w.heap.size, 1, none⟩ (.int .i64 0)).setCell ⟨w.heap.size, 2, none⟩ (.int .i64 0)).setCell ⟨w.heap.size, 3, none⟩ (.slice none 0 0)) = x := ⟨_, rfl⟩
          have HEnd' : Hid (Ends w wF (zeroD) (0) (0) (0) (.slice none 0 0)) := Lib.hid (hwF ▸ HEnd.out)
          clear HEnd
          obtain ⟨r0, r1, c0, c1, c2, c3⟩ := HEnd'.out
          go_wp2_with (exact bodyPost_ret (v := .tuple #[.agg #[.int .i64 (0), .int .i64 (0), .int .i64 (0), .slice none 0 0], .int .i64 (2)]) (by simp [results, Tryd.results10, go_sem, c0, c1, c2, c3]) rfl (by rw [HF.out]; exact ⟨_, rfl, r0, r1⟩))
        rw [hsame] at hcmp
        have hcmp2 : (xi.toList != p2.toList) = false := by rw [bne, hcmp]; rfl
        replace HNUM : Hid (numP p2.data.toList = (v2, true)) := Lib.hid (by rw [HNUM.out, hsame])
        obtain ⟨⟨b0, b1, b2, b3⟩, a0, a1, a2, a3⟩ := HPW.out.bd.eight
        have HPN := Lib.hid (HPW.out.put HV0.out hzl 2 (.int .i64 v2))
        obtain ⟨wc, hwc⟩ : ∃ x, wb.setCell ⟨BD, 2, none⟩ (.int .i64 v2) = x := ⟨_, rfl⟩
        rw [hwc] at HPN
        replace HPW : Hid (PW w wc BD bl ol cl [.int .i64 2, .int .i64 v1, .int .i64 v2, .slice none 0 0] q0 p1 p2) := HPN
        clear HPN hsame
        obtain ⟨pc1, pc2⟩ := HPW.out.piece
        obtain ⟨⟨e0, e1, e2, e3⟩, y0, y1, y2, y3⟩ := HPW.out.bd.eight
        go_wp2_with fail
        rw [rounds_succ]
        clear hcmp hcmp2 b0 b1 b2 b3 a0 a1 a2 a3
        have HPE : Hid (parseP s.data.toList = endP ⟨2, v1, v2, []⟩ true) := Lib.hid (by rw [HPP.out, piece_swap HKQ.out, HNUM1.out, HNUM.out]; rfl)
        have HRD : Hid (RdB wc (fun k => w.heap.size < k) (.slice none 0 0) []) := Lib.hid (RdL.nil_ _ _ _ _ _ (by decide))
        clear HPP HNUM HNUM1
        go_wp2_with fail
        clear e0 e1 e2 e3 y0 y1 y2 y3 pc1 pc2 hwc
        refine (ref_Wrong ⟨2, v1, v2, []⟩ _ _ wc ⟨_, rfl, HRD.out⟩).mono ?_
        rintro e wt ⟨rfl, hbt⟩
        have HRT := Lib.hid (okB.grow HRD.out hbt)
        replace HPW := Lib.hid (HPW.out.grow hbt)
        clear hbt HRD
        obtain ⟨⟨e0, e1, e2, e3⟩, y0, y1, y2, y3⟩ := HPW.out.bd.eight
        have HPZ := Lib.hid HPW.out.z
        have HPB := Lib.hid HPW.out.be
        by_cases hr : wrongI ⟨2, v1, v2, []⟩ = 0
        · have HE : Hid (parseP s.data.toList = (⟨2, v1, v2, []⟩, 0)) := Lib.hid (by rw [HPE.out]; unfold endP; rw [if_neg (by decide), if_neg (by simpa using hr)])
          rw [hr]
          clear hr HPE
          have HEnd := Lib.hid (put_end ⟨2, v1, v2, []⟩ (.slice none 0 0) HPZ.out rfl HPB.out HRT.out (fun k hk => hk))
          obtain ⟨⟨z0, z1, z2, z3⟩, f0, f1, f2, f3⟩ := HPZ.out.eight
          obtain ⟨wF, hwF⟩ : ∃ x, ((((wt.setCell ⟨w.heap.size, 0, none⟩ (.int .i64 2)).setCell ⟨w.heap.size, 1, none⟩ (.int .i64 v1)).setCell ⟨w.heap.size, 2, none⟩ (.int .i64 v2)).setCell ⟨w.heap.size, 3, none⟩ (.slice none 0 0)) = x := ⟨_, rfl⟩
          have HEnd' : Hid (Ends w wF (⟨2, v1, v2, []⟩) (2) (v1) (v2) (.slice none 0 0)) := Lib.hid (hwF ▸ HEnd.out)
          clear HEnd
          obtain ⟨r0, r1, c0, c1, c2, c3⟩ := HEnd'.out
          go_wp2_with (exact bodyPost_ret (v := .tuple #[.agg #[.int .i64 (2), .int .i64 (v1), .int .i64 (v2), .slice none 0 0], .int .i64 (0)]) (by simp [results, Tryd.results10, go_sem, c0, c1, c2, c3]) rfl (by rw [HE.out]; exact ⟨_, rfl, r0, r1⟩))
        · have HE : Hid (parseP s.data.toList = (zeroD, wrongI ⟨2, v1, v2, []⟩)) := Lib.hid (by rw [HPE.out]; unfold endP; rw [if_neg (by decide), if_pos (by simpa using hr)])
          have hne2 : (wrongI ⟨2, v1, v2, []⟩ != 0) = true := by simpa using hr
          generalize wrongI ⟨2, v1, v2, []⟩ = er at *
          clear hr HPE
          go_wp2_with fail
          clear e0 e1 e2 e3 y0 y1 y2 y3
          rename ∀ (a : Act) (w : World), _ => hk0
          revert hk0
          repeat (rename ∀ (a : Act) (w : World), _ => hkk; clear hkk)
          intro hk0
          refine (ref_no (er) _).mono ?_
          rintro e wN ⟨rfl, hbN⟩
          have HZN := Lib.hid (HPZ.out.grow hbN)
          have HBN := Lib.hid (HPB.out.trans (hbN.mono HPB.out.size))
          clear hbN HPZ HPB
          have HEnd := Lib.hid (no_end HZN.out rfl HBN.out)
          obtain ⟨⟨z0, z1, z2, z3⟩, f0, f1, f2, f3⟩ := HZN.out.eight
          obtain ⟨wF, hwF⟩ : ∃ x, ((((wN.setCell ⟨w.heap.size, 0, none⟩ (.int .i64 0)).setCell ⟨w.heap.size, 1, none⟩ (.int .i64 0)).setCell ⟨w.heap.size, 2, none⟩ (.int .i64 0)).setCell ⟨w.heap.size, 3, none⟩ (.slice none 0 0)) = x := ⟨_, rfl⟩
          have HEnd' : Hid (Ends w wF (zeroD) (0) (0) (0) (.slice none 0 0)) := Lib.hid (hwF ▸ HEnd.out)
          clear HEnd
          obtain ⟨r0, r1, c0, c1, c2, c3⟩ := HEnd'.out
          go_wp2_with (exact bodyPost_ret (v := .tuple #[.agg #[.int .i64 (0), .int .i64 (0), .int .i64 (0), .slice none 0 0], .int .i64 (er)]) (by simp [results, Tryd.results10, go_sem, c0, c1, c2, c3]) rfl (by rw [HE.out]; exact ⟨_, rfl, r0, r1⟩))
    by_cases hjn : j = n
    · have dl : decide ((j : Int) < (n : Int) + 1) = true := by simp; omega
      have HN : Hid (Cut1 s (j + 1) (j + 1) (ps ++ [s.extract q j])) := Lib.hid (by
        have h0 := HC.out
        rw [hjn.trans hn.symm] at h0 ⊢
        exact cut1_end h0)
      have HJ := Lib.hid (Nat.le_of_eq hjn)
      obtain ⟨q5, q6, q7⟩ := HW.out
      have e0 : ((j : Int) == (n : Int)) = true := by rw [beq_iff_eq, hjn]
      have q8 : (j : Int) ≤ (n : Int) := by omega
      clear hjn hend hj hqj
      have HTT := Lib.hid (room_piece HC.out.2.2.1 HC.out.2.1 HC.out.1 HSZ.out)
      go_wp2_with (at_builtin; refine wpList_append_bld _ rfl _ _ 59 (by rfl) okRV slS (w.heap.size + 1) (fun _ => True) u5 _ (ps.map Value.string) [.string (s.extract q j)] (by rfl) (by rfl) (Bld.alloc okRV HU.out _) (src_one okRV HU.out trivial ⟨rfl, rfl⟩ _ rfl) HTT.out ?c2 ?c3)
      case c2 => first | exact Nat.le_of_lt hzl | (rw [alloc_size]; exact Nat.succ_le_succ (Nat.le_of_lt hzl))
      case c3 =>
      intro v' w' r1 r2 r3 r4
      have hal := below_alloc wr (.cells #[.string (s.extract q j)] 9)
      have hb' := (hal.mono hzl).trans r2
      have HF := Lib.hid (And.intro r1 (And.intro (HZ.out.keep hb' (Nat.lt_succ_self _)) (HB.out.trans (hb'.mono (Nat.le_succ _)))))
      clear r1 r2 r3 r4 hal hb' HU HZ HB
      go_wp2
      go_roundw
      case rel => exact ⟨j + 1, j + 1, ps ++ [s.extract q j], cast_succ j, cast_succ j, HN.out, by rw [List.map_append]; exact HF.out.1, HF.out.2.1, HF.out.2.2⟩
      case measure => exact meas_succ HJ.out
    have hjl : j < n := by omega
    have hjs : j < s.size := by omega
    obtain ⟨c, hc⟩ : ∃ c, s[j]'hjs = c := ⟨_, rfl⟩
    have dl : decide ((j : Int) < (n : Int) + 1) = true := by simp; omega
    have e0 : ((j : Int) == (n : Int)) = false := by rw [beq_eq_false_iff_ne]; omega
    have q5 : (j : Int) < (n : Int) := by omega
    have q6 : (0 : Int) ≤ (j : Int) := by omega
    have q8 : (j : Int) ≤ (n : Int) := by omega
    have HJ := Lib.hid (Nat.le_of_lt hjl)
    obtain ⟨q9, q10, q11⟩ := HW.out
    have h32i := eq32 c
    by_cases h32 : c = 32
    · have HN : Hid (Cut1 s (j + 1) (j + 1) (ps ++ [s.extract q j])) := Lib.hid (cut1_cut HC.out hjs (hc.trans h32))
      rw [decide_eq_true h32] at h32i
      clear hend hjn hj hqj hjl h32
      have HTT := Lib.hid (room_piece HC.out.2.2.1 HC.out.2.1 HC.out.1 HSZ.out)
      go_wp2_with (at_builtin; refine wpList_append_bld _ rfl _ _ 59 (by rfl) okRV slS (w.heap.size + 1) (fun _ => True) u5 _ (ps.map Value.string) [.string (s.extract q j)] (by rfl) (by rfl) (Bld.alloc okRV HU.out _) (src_one okRV HU.out trivial ⟨rfl, rfl⟩ _ rfl) HTT.out ?c2 ?c3)
      case c2 => first | exact Nat.le_of_lt hzl | (rw [alloc_size]; exact Nat.succ_le_succ (Nat.le_of_lt hzl))
      case c3 =>
      intro v' w' r1 r2 r3 r4
      have hal := below_alloc wr (.cells #[.string (s.extract q j)] 9)
      have hb' := (hal.mono hzl).trans r2
      have HF := Lib.hid (And.intro r1 (And.intro (HZ.out.keep hb' (Nat.lt_succ_self _)) (HB.out.trans (hb'.mono (Nat.le_succ _)))))
      clear r1 r2 r3 r4 hal hb' HU HZ HB
      go_wp2
      go_roundw
      case rel => exact ⟨j + 1, j + 1, ps ++ [s.extract q j], cast_succ j, cast_succ j, HN.out, by rw [List.map_append]; exact HF.out.1, HF.out.2.1, HF.out.2.2⟩
      case measure => exact meas_succ HJ.out
    · have HN : Hid (Cut1 s (j + 1) q ps) := Lib.hid (cut1_skip HC.out hjs (fun e => h32 (hc.symm.trans e)))
      rw [decide_eq_false h32] at h32i
      have HF := Lib.hid (And.intro HU.out (And.intro HZ.out HB.out))
      clear hend hjn hj hqj hjl h32 HU HZ HB
      go_wp2
      go_roundw
      case rel => exact ⟨j + 1, q, ps, cast_succ j, rfl, HN.out, HF.out.1, HF.out.2.1, HF.out.2.2⟩
      case measure => exact meas_succ HJ.out
end Go.Proofs.YtdcmbdghnkgghaaDoor

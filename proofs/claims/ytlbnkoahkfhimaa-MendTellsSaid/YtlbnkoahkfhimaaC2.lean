/- Chapter 2: what cell.There, cell.Bytes, cell.Read and the reference's two compute. -/
import Derived.Test.YtlbnkoahkfhimaaC1
import Derived.Test.YtlbnkoahkfhimaaPure3
namespace Go.Proofs.Ytlbnkoahkfhimaa
set_option linter.unusedVariables false
open Go Go.RowKit M

theorem cell_There (d s : Int) (w : World) :
    Calls Try.prog 65 #[.int .i64 d, .int .i64 s] w fun e w' => e = .returned (.bool (thereB d s)) ∧ w = w' := by
  by_cases h1 : 0 ≤ d
  · by_cases h2 : d < 4
    · by_cases h3 : 0 ≤ s
      · have hf : thereB d s = decide (s < 3) := by unfold thereB; simp [h1, h2, h3]
        have HF := Lib.hid hf
        clear hf
        go_enter Try.func65, Try.ntmps65
        go_wp2
        go_ret
        exact ⟨ret_bool HF.out.symm, rfl⟩
      · have hf : thereB d s = false := by unfold thereB; simp [h3]
        have HF := Lib.hid hf
        clear hf
        go_enter Try.func65, Try.ntmps65
        go_wp2
        go_ret
        exact ⟨ret_bool HF.out.symm, rfl⟩
    · have hf : thereB d s = false := by unfold thereB; simp [h2]
      have HF := Lib.hid hf
      clear hf
      go_enter Try.func65, Try.ntmps65
      go_wp2
      go_ret
      exact ⟨ret_bool HF.out.symm, rfl⟩
  · have hf : thereB d s = false := by unfold thereB; simp [h1]
    have HF := Lib.hid hf
    clear hf
    go_enter Try.func65, Try.ntmps65
    go_wp2
    go_ret
    exact ⟨ret_bool HF.out.symm, rfl⟩
set_option maxHeartbeats 400000 in
theorem cell_Bytes (d s : Nat) (x : Bs) (v : Value) (F : Fp) (w : World) (h : RdB w F v x) (hd : d < 256) (hs : s < 256) (hx : x.length ≤ 1000) :
    Calls Try.prog 62 #[.int .i64 d, .int .i64 s, v] w fun e w' => ∃ v', e = .returned v' ∧ Bld R8 5 w' w.heap.size (fun _ => True) v' (cellB d s x) ∧ Below w.heap.size w w' := by
  obtain ⟨A, c, rfl, _, _⟩ := h.shape
  have e1 : R8 w (fun _ => True) (.int .u8 d) (UInt8.ofNat d) := R8_of (by omega)
  have e2 : R8 w (fun _ => True) (.int .u8 s) (UInt8.ofNat s) := R8_of (by omega)
  have hown : Bld R8 5 (w.alloc (.cells #[.int .u8 d, .int .u8 s] 5)) w.heap.size (fun _ => True) (.slice (some ⟨w.heap.size, 0, none⟩) 2 2) [UInt8.ofNat d, UInt8.ofNat s] :=
    Bld.lit ok8 (us := [.int .u8 d, .int .u8 s]) (xs := [UInt8.ofNat d, UInt8.ofNat s]) 5 (Nat.le_refl _) rfl (by simp [maxLen]) fun j u x hu hx => by
      match j with
      | 0 => simp at hu hx; subst hu; subst hx; exact e1
      | 1 => simp at hu hx; subst hu; subst hx; exact e2
      | j + 2 => simp at hu
  have hsrc := okB.old h (below_alloc w (.cells #[.int .u8 d, .int .u8 s] 5)) (G := fun k => some k ≠ Value.ownBlock (.slice (some ⟨w.heap.size, 0, none⟩) 2 2) ∧ True) (by simp [Value.ownBlock]; omega)
  clear e1 e2 h
  go_enter Try.func62, Try.ntmps62
  go_wp2_with (at_builtin; refine wpList_append_bld _ rfl _ _ 23 rfl ok8 slB w.heap.size (fun _ => True) (.slice (some ⟨w.heap.size, 0, none⟩) 2 2) _ _ x rfl rfl hown hsrc ?c1 ?c2 ?c3)
  case c1 => simp; omega
  case c2 => simp
  case c3 =>
  intro v1 w1 hv1 hl1 _ _
  replace hl1 := (below_alloc w (.cells #[.int .u8 d, .int .u8 s] 5)).trans hl1
  have hr := hv1.toRd_ ok8
  have HZ := Lib.hid hl1.size
  clear hown hsrc hv1
  go_wp2_with fail
  refine (sum_Seal _ _ _ _ hr (by simp; omega)).mono ?_
  rintro e w2 ⟨v2, rfl, hv2, hb2⟩
  have hf := hv2.base_ HZ.out
  have hl2 := hl1.trans (hb2.mono HZ.out)
  clear hv2 hr
  go_wp2
  go_ret
  exact ⟨_, rfl, hf, hl2⟩
theorem read_cells {b : Bs} {A : Option Addr} {c : Nat} {w : World} {F : Fp} (h : RdB w F (.slice A 8 c) b) : ∃ bb off, A = some ⟨bb, off, none⟩ ∧ 8 ≤ c ∧ c ≤ maxLen ∧
    w.cell? ⟨bb, off, none⟩ = some (.int .u8 (at8 b 0)) ∧ w.cell? ⟨bb, off + 1, none⟩ = some (.int .u8 (at8 b 1)) ∧ RdB w F (.slice (some ⟨bb, off + 2, none⟩) 4 (c - 2)) ((b.drop 2).take 4) := by
  have hl := h.len
  obtain ⟨hc1, hc2⟩ := h.cap
  obtain ⟨bb, off, u, rfl, _, hu, hR⟩ := h.at_ (k := 0) (by omega)
  obtain ⟨bb', off', u', hA, _, hu', hR'⟩ := h.at_ (k := 1) (by omega)
  injection hA with hA
  injection hA with hA1 hA2
  subst hA1
  subst hA2
  cases hR
  cases hR'
  unfold B8 at hu hu'
  rw [← at8_get (by omega)] at hu hu'
  exact ⟨bb, off, rfl, hc1, hc2, hu, hu', h.part (i := 2) (j := 6) (by omega) (by omega) (c - 2) (by omega) (by omega)⟩
set_option maxHeartbeats 800000 in
theorem cell_Read (b : Bs) (d s : Int) (v : Value) (F : Fp) (w : World) (h : RdB w F v b) :
    Calls Try.prog 59 #[v, .int .i64 d, .int .i64 s] w fun e w' => ∃ v', e = .returned (.tuple #[v', .int .i64 (readC b d s).2]) ∧ Bld R8 5 w' w.heap.size (fun _ => True) v' (readC b d s).1 ∧ Below w.heap.size w w' := by
  obtain ⟨A, c, rfl, _, _⟩ := h.shape
  by_cases h8 : b.length = 8
  rotate_left
  · have hf : readC b d s = ([], 7) := by unfold readC; rw [if_pos (.inl h8)]
    rw [hf]
    have h8' : ((b.length : Int) != 8) = true := by simp; omega
    clear h8 hf
    go_enter Try.func59, Try.ntmps59
    go_wp2
    go_ret2
    exact ⟨_, rfl, Bld.nil_ _ _ _ _ _, Below.refl _ _⟩
  rw [h8] at h ⊢
  by_cases hse : sealedB b = true
  rotate_left
  · have hse' : sealedB b = false := by simpa using hse
    have hf : readC b d s = ([], 7) := by unfold readC; rw [if_pos (.inr hse')]
    rw [hf]
    have HS := Lib.hid hse'
    clear h8 hf hse hse'
    go_enter Try.func59, Try.ntmps59
    go_wp2_with (go_at_call 74; refine (sum_Sealed b _ F _ h).mono ?_; rintro e w' ⟨rfl, rfl⟩; rw [HS.out])
    go_ret2
    exact ⟨_, rfl, Bld.nil_ _ _ _ _ _, Below.refl _ _⟩
  obtain ⟨bb, off, rfl, hc1, hc2, hu0, hu1, hp⟩ := read_cells h
  have HS := Lib.hid hse
  have a0 := at8_lo b 0
  have a1 := at8_hi b 0
  have a2 := at8_lo b 1
  have a3 := at8_hi b 1
  by_cases h0 : at8 b 0 = d
  rotate_left
  · have hf : readC b d s = ([], 8) := by unfold readC; rw [if_neg (by simp [h8, hse]), if_pos (.inl h0)]
    rw [hf]
    have h0' : (at8 b 0 != d) = true := by simpa using h0
    clear h8 hf hse h0 hp
    go_enter Try.func59, Try.ntmps59
    go_wp2_with (go_at_call 74; refine (sum_Sealed b _ F _ h).mono ?_; rintro e w' ⟨rfl, rfl⟩; rw [HS.out])
    go_ret2
    exact ⟨_, rfl, Bld.nil_ _ _ _ _ _, Below.refl _ _⟩
  have h0' : (at8 b 0 != d) = false := by simpa using h0
  by_cases h1 : at8 b 1 = s
  rotate_left
  · have hf : readC b d s = ([], 8) := by unfold readC; rw [if_neg (by simp [h8, hse]), if_pos (.inr h1)]
    rw [hf]
    have h1' : (at8 b 1 != s) = true := by simpa using h1
    clear h8 hf hse h0 h1 hp
    go_enter Try.func59, Try.ntmps59
    go_wp2_with (go_at_call 74; refine (sum_Sealed b _ F _ h).mono ?_; rintro e w' ⟨rfl, rfl⟩; rw [HS.out])
    go_ret2
    exact ⟨_, rfl, Bld.nil_ _ _ _ _ _, Below.refl _ _⟩
  have h1' : (at8 b 1 != s) = false := by simpa using h1
  have hf : readC b d s = ((b.drop 2).take 4, 0) := by unfold readC; rw [if_neg (by simp [h8, hse]), if_neg (by simp [h0, h1])]
  rw [hf]
  have hpl : ((b.drop 2).take 4).length = 4 := by simp; omega
  have HPL := Lib.hid hpl
  clear h8 hf hse h0 h1 hpl
  have h2 := okB.mono hp (F' := fun k => some k ≠ Value.ownBlock (.slice none 0 0) ∧ True) (by simp [Value.ownBlock])
  clear hp
  have q1 : 2 ≤ c := by omega
  have q2 : 6 ≤ c := by omega
  unfold maxLen at hc2
  go_enter Try.func59, Try.ntmps59
  go_wp2_with (first | (go_at_call 74; refine (sum_Sealed b _ F _ h).mono ?_; rintro e w' ⟨rfl, rfl⟩; rw [HS.out]) | (at_builtin; refine wpList_append_bld _ rfl _ _ 23 rfl ok8 slB w.heap.size (fun _ => True) _ _ [] ((b.drop 2).take 4) rfl rfl (Bld.nil_ _ _ _ _ _) h2 ?c1 ?c2 ?c3))
  case c1 => rw [HPL.out]; decide
  case c2 => exact Nat.le_refl _
  case c3 =>
  intro v1 w1 hv1 hl1 _ _
  clear h2
  go_wp2
  go_ret2
  exact ⟨_, rfl, hv1, hl1⟩
set_option maxHeartbeats 800000 in
theorem ref_CellRead (b : Bs) (d s : Int) (v : Value) (F : Fp) (w : World) (h : RdB w F v b) :
    Calls Try.prog 61 #[v, .int .i64 d, .int .i64 s] w fun e w' => ∃ v', e = .returned (.tuple #[v', .int .i64 (readC b d s).2]) ∧ RdB w' F v' (readC b d s).1 ∧ Below w.heap.size w w' := by
  obtain ⟨A, c, rfl, _, _⟩ := h.shape
  by_cases h8 : b.length = 8
  rotate_left
  · have hf : readC b d s = ([], 7) := by unfold readC; rw [if_pos (.inl h8)]
    rw [hf]
    have h8' : ((b.length : Int) != 8) = true := by simp; omega
    clear h8 hf
    go_enter Try.func61, Try.ntmps61
    go_wp2
    go_ret2
    exact ⟨_, rfl, RdL.nil_ _ _ _ _ _ (by simp [maxLen]), Below.refl _ _⟩
  rw [h8] at h ⊢
  by_cases hse : sealedB b = true
  rotate_left
  · have hse' : sealedB b = false := by simpa using hse
    have hf : readC b d s = ([], 7) := by unfold readC; rw [if_pos (.inr hse')]
    rw [hf]
    have HS := Lib.hid hse'
    clear hf hse hse'
    go_enter Try.func61, Try.ntmps61
    go_wp2_with fail
    refine (ref_Sealed b _ F _ h (by omega)).mono ?_
    rintro e w1 ⟨rfl, hl1⟩
    rw [HS.out]
    go_wp2
    go_ret2
    exact ⟨_, rfl, RdL.nil_ _ _ _ _ _ (by simp [maxLen]), hl1⟩
  obtain ⟨bb, off, rfl, hc1, hc2, hu0, hu1, hp⟩ := read_cells h
  have HS := Lib.hid hse
  have a0 := at8_lo b 0
  have a1 := at8_hi b 0
  have a2 := at8_lo b 1
  have a3 := at8_hi b 1
  by_cases h0 : at8 b 0 = d
  rotate_left
  · have hf : readC b d s = ([], 8) := by unfold readC; rw [if_neg (by simp [h8, hse]), if_pos (.inl h0)]
    rw [hf]
    have h0' : (at8 b 0 != d) = true := by simpa using h0
    clear hf hse h0 hp
    go_enter Try.func61, Try.ntmps61
    go_wp2_with fail
    refine (ref_Sealed b _ F _ h (by omega)).mono ?_
    rintro e w1 ⟨rfl, hl1⟩
    rw [HS.out]
    have c0 := (hl1.cell (p := ⟨bb, off, none⟩) (World.block_lt_of_cell? _ _ hu0)).trans hu0
    have c1 := (hl1.cell (p := ⟨bb, off + 1, none⟩) (World.block_lt_of_cell? _ _ hu1)).trans hu1
    clear hu0 hu1 h
    go_wp2
    go_ret2
    exact ⟨_, rfl, RdL.nil_ _ _ _ _ _ (by simp [maxLen]), hl1⟩
  have h0' : (at8 b 0 != d) = false := by simpa using h0
  by_cases h1 : at8 b 1 = s
  rotate_left
  · have hf : readC b d s = ([], 8) := by unfold readC; rw [if_neg (by simp [h8, hse]), if_pos (.inr h1)]
    rw [hf]
    have h1' : (at8 b 1 != s) = true := by simpa using h1
    clear hf hse h0 h1 hp
    go_enter Try.func61, Try.ntmps61
    go_wp2_with fail
    refine (ref_Sealed b _ F _ h (by omega)).mono ?_
    rintro e w1 ⟨rfl, hl1⟩
    rw [HS.out]
    have c0 := (hl1.cell (p := ⟨bb, off, none⟩) (World.block_lt_of_cell? _ _ hu0)).trans hu0
    have c1 := (hl1.cell (p := ⟨bb, off + 1, none⟩) (World.block_lt_of_cell? _ _ hu1)).trans hu1
    clear hu0 hu1 h
    go_wp2
    go_ret2
    exact ⟨_, rfl, RdL.nil_ _ _ _ _ _ (by simp [maxLen]), hl1⟩
  have h1' : (at8 b 1 != s) = false := by simpa using h1
  have hf : readC b d s = ((b.drop 2).take 4, 0) := by unfold readC; rw [if_neg (by simp [h8, hse]), if_neg (by simp [h0, h1])]
  rw [hf]
  clear hf hse h0 h1
  have q1 : 2 ≤ c := by omega
  have q2 : 6 ≤ c := by omega
  unfold maxLen at hc2
  go_enter Try.func61, Try.ntmps61
  go_wp2_with fail
  refine (ref_Sealed b _ F _ h (by omega)).mono ?_
  rintro e w1 ⟨rfl, hl1⟩
  rw [HS.out]
  have c0 := (hl1.cell (p := ⟨bb, off, none⟩) (World.block_lt_of_cell? _ _ hu0)).trans hu0
  have c1 := (hl1.cell (p := ⟨bb, off + 1, none⟩) (World.block_lt_of_cell? _ _ hu1)).trans hu1
  have hp1 := okB.grow hp hl1
  clear hu0 hu1 hp h
  go_wp2
  go_ret2
  exact ⟨_, rfl, hp1, hl1⟩
set_option maxHeartbeats 400000 in
theorem ref_CellBytes (d s : Nat) (x : Bs) (v : Value) (F : Fp) (w : World) (h : RdB w F v x) (hd : d < 256) (hs : s < 256) (hx : x.length ≤ 1000) :
    Calls Try.prog 63 #[.int .i64 d, .int .i64 s, v] w fun e w' => ∃ v', e = .returned v' ∧ Bld R8 5 w' w.heap.size (fun _ => True) v' (cellB d s x) ∧ Below w.heap.size w w' := by
  have h1 : RdB (w.alloc (.cells #[.int .u8 d, .int .u8 s] 5)) (fun _ => True) (.slice (some ⟨w.heap.size, 0, none⟩) 2 2) [UInt8.ofNat d, UInt8.ofNat s] := RdL.two_ ok8 (R8_of (w := w) (F := fun _ => True) (by omega)) (R8_of (by omega)) _ trivial
  have hl0 := below_alloc w (.cells #[.int .u8 d, .int .u8 s] 5)
  have hc1 := run_conv h1 Try.underlying23 Try.underlying5 Try.underlying9
  have hc2 := run_conv (okB.grow h hl0) Try.underlying23 Try.underlying5 Try.underlying9
  have hsz : (strB [UInt8.ofNat d, UInt8.ofNat s]).size + (strB x).size ≤ 9223372036854775807 := by rw [strB_size, strB_size]; simp; omega
  have hadd := fun (w : World) => run_string_add_sum (P := Try.prog) w (strB [UInt8.ofNat d, UInt8.ofNat s]) (strB x) hsz
  rw [strB_add] at hadd
  simp only [List.cons_append, List.nil_append] at hadd
  obtain ⟨c, w2, hr, hrd, hb2⟩ := run_bytes (P := Try.prog) (w.alloc (.cells #[.int .u8 d, .int .u8 s] 5)) (UInt8.ofNat d :: UInt8.ofNat s :: x) Try.underlying9 Try.underlying23 Try.underlying5 (by simp [maxLen]; omega)
  have hl2 := hl0.trans (hb2.mono hl0.size)
  generalize Value.slice (some ⟨(w.alloc (.cells #[.int .u8 d, .int .u8 s] 5)).heap.size, 0, none⟩) (UInt8.ofNat d :: UInt8.ofNat s :: x).length c = v0 at *
  clear h1 hsz hb2 h
  go_enter Try.func63, Try.ntmps63
  go_wp2_with fail
  refine (ref_Seal _ _ _ _ hrd (by simp; omega)).mono ?_
  rintro e w3 ⟨v3, rfl, hv3, hb3⟩
  have hf := hv3.base_ hl2.size
  have hl3 := hl2.trans (hb3.mono hl2.size)
  clear hv3 hrd
  go_wp2
  go_ret
  exact ⟨_, rfl, hf, hl3⟩
end Go.Proofs.Ytlbnkoahkfhimaa

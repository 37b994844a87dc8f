/- Chapter 10: what the reference's Rot computes. -/
import Derived.Test.YtlbnkoahkfhimaaC8c
namespace Go.Proofs.Ytlbnkoahkfhimaa
set_option linter.unusedVariables false
open Go Go.RowKit M
theorem xor_one : ∀ n, n < 256 → (n ^^^ 1 : Nat) = if n % 2 = 0 then n + 1 else n - 1 := by decide +kernel
theorem at8_turn {b : Bs} {n : Nat} (h : n < b.length) : ((b.getD n 0 ^^^ 1).toNat : Int) = if at8 b n % 2 = 0 then at8 b n + 1 else at8 b n - 1 := by
  unfold at8
  have hx := xor_one (b.getD n 0).toNat (b.getD n 0).toNat_lt
  rw [show (b.getD n 0 ^^^ 1).toNat = (b.getD n 0).toNat ^^^ 1 by rw [UInt8.toNat_xor]; rfl, hx]
  split <;> split <;> omega
theorem rot_no {a : Arr} {d s n : Int} (h : thereB d s = false ∨ n < 0 ∨ ((cellAt a.disks d.toNat s.toNat).length : Int) ≤ n) : rotA a d s n = (a, 6) := by unfold rotA; rw [if_pos h]
theorem rot_yes {a : Arr} {d s n : Nat} (hd : d < 4) (hs : s < 3) (hn : n < (cellAt a.disks d s).length) : rotA a (d : Nat) (s : Nat) (n : Nat) = (⟨setA a.disks d s ((cellAt a.disks d s).set n ((cellAt a.disks d s).getD n 0 ^^^ 1)), a.ints⟩, 0) := by
  unfold rotA
  rw [if_neg]
  · simp
  · simp only [Int.toNat_natCast, not_or]
    refine ⟨by rw [thereB_iff.2 ⟨by omega, by omega, by omega, by omega⟩]; decide, by omega, by omega⟩
set_option maxRecDepth 100000 in
set_option maxHeartbeats 1600000 in
theorem ref_Rot (a : Arr) (d s n : Int) (v : Value) (F : Fp) (w : World) (h : RdA w F v a) (hsh : Shape a.disks) :
    Calls Try.prog 38 #[v, .int .i64 d, .int .i64 s, .int .i64 n] w fun e w' => ∃ v', e = .returned (.tuple #[v', .int .i64 (rotA a d s n).2]) ∧ RdA w' (fun k => F k ∨ w.heap.size ≤ k) v' (rotA a d s n).1 ∧ Below w.heap.size w w' := by
  obtain ⟨b0, o0, c0, Ai, ci, rfl, hD, hI, hc0, hc1⟩ := RdA_open h hsh
  by_cases hno : d < 0 ∨ 3 < d ∨ s < 0 ∨ 2 < s ∨ n < 0
  · have hB0 := below_alloc w (.cells #[.slice (some ⟨b0, o0, none⟩) 4 c0, .slice Ai a.ints.length ci] 41)
    have hB2 := hB0.trans ((below_alloc (w.alloc (.cells #[.slice (some ⟨b0, o0, none⟩) 4 c0, .slice Ai a.ints.length ci] 41)) (.cells #[.slice (some ⟨b0, o0, none⟩) 4 c0, .slice Ai a.ints.length ci] 41)).mono hB0.size)
    have hA2 : RdA _ (fun k => F k ∨ w.heap.size ≤ k) _ a := RdA.mono (F := fun k => F k ∧ k < w.heap.size) ⟨_, _, rfl, okBBB.grow hD hB2, okIs.grow hI hB2⟩ fun k hk => .inl hk.1
    obtain ⟨hA, hR, hB, hsz⟩ := two_boxes w (.slice (some ⟨b0, o0, none⟩) 4 c0) (.slice Ai a.ints.length ci) 41
    obtain ⟨x0, x1, x2, x3⟩ := hA.two
    obtain ⟨y0, y1, y2, y3⟩ := hR.two
    have HA2 := Lib.hid hA2
    have HB2 := Lib.hid hB2
    rw [rot_no (show thereB d s = false ∨ n < 0 ∨ ((cellAt a.disks d.toNat s.toNat).length : Int) ≤ n by
      by_cases hn : n < 0
      · exact .inr (.inl hn)
      · left
        cases ht : thereB d s with
        | false => rfl
        | true => have := thereB_iff.1 ht; omega)]
    clear hA2 hB2 hB0 h hD hI hA hR hB hsz
    by_cases h1 : d < 0
    · go_enter Try.func38, Try.ntmps38
      go_wp2
      exact bodyPost_ret (v := .tuple #[.agg #[.slice (some ⟨b0, o0, none⟩) 4 c0, .slice Ai a.ints.length ci], .int .i64 6]) (by simp [results, Try.results38, go_sem, *]) rfl ⟨_, rfl, HA2.out, HB2.out⟩
    by_cases h2 : 3 < d
    · go_enter Try.func38, Try.ntmps38
      go_wp2
      exact bodyPost_ret (v := .tuple #[.agg #[.slice (some ⟨b0, o0, none⟩) 4 c0, .slice Ai a.ints.length ci], .int .i64 6]) (by simp [results, Try.results38, go_sem, *]) rfl ⟨_, rfl, HA2.out, HB2.out⟩
    by_cases h3 : s < 0
    · go_enter Try.func38, Try.ntmps38
      go_wp2
      exact bodyPost_ret (v := .tuple #[.agg #[.slice (some ⟨b0, o0, none⟩) 4 c0, .slice Ai a.ints.length ci], .int .i64 6]) (by simp [results, Try.results38, go_sem, *]) rfl ⟨_, rfl, HA2.out, HB2.out⟩
    by_cases h4 : 2 < s
    · go_enter Try.func38, Try.ntmps38
      go_wp2
      exact bodyPost_ret (v := .tuple #[.agg #[.slice (some ⟨b0, o0, none⟩) 4 c0, .slice Ai a.ints.length ci], .int .i64 6]) (by simp [results, Try.results38, go_sem, *]) rfl ⟨_, rfl, HA2.out, HB2.out⟩
    have h5 : n < 0 := by omega
    clear hno
    go_enter Try.func38, Try.ntmps38
    go_wp2
    exact bodyPost_ret (v := .tuple #[.agg #[.slice (some ⟨b0, o0, none⟩) 4 c0, .slice Ai a.ints.length ci], .int .i64 6]) (by simp [results, Try.results38, go_sem, *]) rfl ⟨_, rfl, HA2.out, HB2.out⟩
  obtain ⟨d, rfl⟩ := Int.eq_ofNat_of_zero_le (show 0 ≤ d by omega)
  obtain ⟨s, rfl⟩ := Int.eq_ofNat_of_zero_le (show 0 ≤ s by omega)
  obtain ⟨n, rfl⟩ := Int.eq_ofNat_of_zero_le (show 0 ≤ n by omega)
  have hd : d < 4 := by omega
  have hs : s < 3 := by omega
  clear hno
  by_cases hn : n < (cellAt a.disks d s).length
  rotate_left
  · have hB0 := below_alloc w (.cells #[.slice (some ⟨b0, o0, none⟩) 4 c0, .slice Ai a.ints.length ci] 41)
    have hB2 := hB0.trans ((below_alloc (w.alloc (.cells #[.slice (some ⟨b0, o0, none⟩) 4 c0, .slice Ai a.ints.length ci] 41)) (.cells #[.slice (some ⟨b0, o0, none⟩) 4 c0, .slice Ai a.ints.length ci] 41)).mono hB0.size)
    have hA2 : RdA _ (fun k => F k ∨ w.heap.size ≤ k) _ a := RdA.mono (F := fun k => F k ∧ k < w.heap.size) ⟨_, _, rfl, okBBB.grow hD hB2, okIs.grow hI hB2⟩ fun k hk => .inl hk.1
    obtain ⟨hA, hR, hB, hsz⟩ := two_boxes w (.slice (some ⟨b0, o0, none⟩) 4 c0) (.slice Ai a.ints.length ci) 41
    obtain ⟨b1, o1, c1, A2, c2, hu1, hd1, hd2, hu2, hR2⟩ := disks_cell (okBBB.grow hD hB) hsh hd hs
    unfold maxLen at hd2
    obtain ⟨x0, x1, x2, x3⟩ := hA.two
    obtain ⟨y0, y1, y2, y3⟩ := hR.two
    have HA2 := Lib.hid hA2
    have HB2 := Lib.hid hB2
    have hle : ((cellAt a.disks d s).length : Int) ≤ (n : Int) := by omega
    rw [rot_no (by right; right; simp only [Int.toNat_natCast]; exact hle)]
    clear hA2 hB2 hB0 h hD hI hA hR hB hsz hR2 hsh
    go_enter Try.func38, Try.ntmps38
    go_wp2
    exact bodyPost_ret (v := .tuple #[.agg #[.slice (some ⟨b0, o0, none⟩) 4 c0, .slice Ai a.ints.length ci], .int .i64 6]) (by simp [results, Try.results38, go_sem, *]) rfl ⟨_, rfl, HA2.out, HB2.out⟩
  rw [rot_yes hd hs hn]
  have hlen8 : (cellAt a.disks d s).length ≤ 8 := by obtain ⟨_, _, _, _, h8⟩ := hsh.cell hd hs; exact h8
  have HS := Lib.hid hsh
  have hturn := at8_turn hn
  have x0 := at8_lo (cellAt a.disks d s) n
  have x1 := at8_hi (cellAt a.disks d s) n
  obtain ⟨cl, hcl⟩ : ∃ cl, cellAt a.disks d s = cl := ⟨_, rfl⟩
  obtain ⟨hA, hR, hB, hsz⟩ := two_boxes w (.slice (some ⟨b0, o0, none⟩) 4 c0) (.slice Ai a.ints.length ci) 41
  obtain ⟨w1, hW⟩ : ∃ x, (w.alloc (.cells #[.slice (some ⟨b0, o0, none⟩) 4 c0, .slice Ai a.ints.length ci] 41)).alloc (.cells #[.slice none 0 0, .slice none 0 0] 41) = x := ⟨_, rfl⟩
  rw [hW] at hA hR hB hsz
  have hbe := below_alloc w1 (.cells #[] 5)
  have hB1 := hB.trans (hbe.mono hB.size)
  obtain ⟨b1, o1, c1, A2, c2, hu1, hd1, hd2, hu2, hR2⟩ := disks_cell (okBBB.grow hD hB) hsh hd hs
  replace hR2 := okB.grow hR2 hbe
  have hv1 := (hbe.cell (World.block_lt_of_cell? _ _ hu1)).trans hu1
  have hv2 := (hbe.cell (World.block_lt_of_cell? _ _ hu2)).trans hu2
  rw [hcl] at hu2 hv2 hR2 hn hlen8 hturn x0 x1 ⊢
  unfold maxLen at hd2
  have hE := Bld.empty R8 5 w1 (w.heap.size + 2) (fun _ => True) (by omega)
  have hS0 : RdB (w1.alloc (.cells #[] 5)) (fun k => some k ≠ (Value.slice (some ⟨w1.heap.size, 0, none⟩) 0 0).ownBlock ∧ True) (.slice A2 cl.length c2) cl := okB.mono hR2 fun k hk => ⟨by have := hk.2; simp only [Value.ownBlock, ne_eq, Option.some.injEq]; omega, trivial⟩
  obtain ⟨y0, y1, y2, y3⟩ := hA.two
  obtain ⟨z0, z1, z2, z3⟩ := (hA.grow hbe).two
  have HA := Lib.hid (hA.grow hbe)
  have HR := Lib.hid (hR.grow hbe)
  have HB := Lib.hid hB1
  have HSZ := Lib.hid hsz
  have HBE := Lib.hid hbe
  have HT := Lib.hid hturn
  have HCL := Lib.hid hcl
  clear h hA hR hB hbe hB1 hsz hR2 hturn hcl hsh y2 y3 z2 z3
  have hlo : decide (cl.length ≤ n) = false := by simp; omega
  go_enter Try.func38, Try.ntmps38
  go_wp2_with (at_builtin; refine wpList_append_bld (w1.alloc (.cells #[] 5)) rfl _ _ 23 (by rfl) ok8 slB (w.heap.size + 2) (fun _ => True) (.slice (some ⟨w1.heap.size, 0, none⟩) 0 0) _ [] cl (by rfl) (by rfl) hE hS0 ?c1 ?c2 ?c3)
  case c1 => simp; omega
  case c2 => have := HBE.out.size; have := HSZ.out; omega
  case c3 =>
  intro v3 w3 hv3 hb3 _ _
  replace hv3 : Bld R8 5 w3 (w.heap.size + 2) (fun _ => True) v3 cl := hv3
  obtain ⟨g, c4, rfl, hg0, hg1, hg2, hg3⟩ := hv3.form (by omega)
  unfold maxLen at hg3
  have hszE := HSZ.out
  have hB3 := HB.out.trans (hb3.mono (by omega))
  have hA3 := HA.out.keep hb3 (by omega)
  have hR3 := HR.out.keep hb3 (by omega)
  obtain ⟨u, hu, hfz, hRu⟩ := hv3.at_ hn
  cases hRu
  unfold B8 at hu
  rw [← at8_get hn] at hu
  have hsh2 : Shape (setA a.disks d s (cl.set n (cl.getD n 0 ^^^ 1))) := shape_set HS.out d s (by rw [List.length_set]; exact hlen8)
  clear hE hS0 y0 y1 hu1 hu2 hb3
  -- the byte, turned
  have key : ∀ (y : Int), y = ((cl.getD n 0 ^^^ 1).toNat : Int) → ∃ w4, w3.setCell ⟨g, n, none⟩ (.int .u8 y) = w4 ∧ BoxAt w4 w.heap.size 41 [.slice (some ⟨b0, o0, none⟩) 4 c0, .slice Ai a.ints.length ci] ∧ BoxAt w4 (w.heap.size + 1) 41 [.slice none 0 0, .slice none 0 0] ∧ Below w.heap.size w w4 ∧ w.heap.size + 2 ≤ w4.heap.size ∧ RdB w4 (fun k => F k ∧ k < w.heap.size ∨ w.heap.size + 2 ≤ k) (.slice (some ⟨g, 0, none⟩) cl.length c4) (cl.set n (cl.getD n 0 ^^^ 1)) := by
    intro y hy
    refine ⟨_, rfl, hA3.far (by omega), hR3.far (by omega), hB3.setCell (p := ⟨g, n, none⟩) (by show w.heap.size ≤ g; omega) _, by rw [setCell_size]; omega, ?_⟩
    have hset := (hv3.bytes (G' := fun _ => False)).set_ ok8 hn (u := .int .u8 y) (x := cl.getD n 0 ^^^ 1) (by rw [hy]; rfl)
    have := hset.toRd ok8 (F := fun k => F k ∧ k < w.heap.size ∨ w.heap.size + 2 ≤ k) (fun k hk => .inr hk) (fun _ hk => hk.elim)
    exact this
  have KEY := Lib.hid key
  clear key hv3 hA3 hR3 hB3
  have ht := HT.out
  by_cases he : at8 cl n % 2 = 0
  · rw [if_pos he] at ht
    obtain ⟨w4, hw4, hA4, hR4, hB4, hs4, hr4⟩ := KEY.out ((at8 cl n + 1) % 256) (by omega)
    have hm : (at8 cl n % 2 == 0) = true := by simpa using he
    obtain ⟨q0, q1, _, _⟩ := hA4.two
    have H4 := Lib.hid (And.intro hR4 (And.intro hB4 hs4))
    have HR4 := Lib.hid hr4
    have HD4 := Lib.hid (⟨_, _, rfl, okBBB.mono (okBBB.grow hD hB4) fun _ hk => .inl hk, okIs.mono (okIs.grow hI hB4) fun _ hk => .inl hk⟩ : RdA w4 (fun k => F k ∧ k < w.heap.size ∨ w.heap.size + 2 ≤ k) (.agg #[.slice (some ⟨b0, o0, none⟩) 4 c0, .slice Ai a.ints.length ci]) a)
    clear hA4 hR4 hB4 hs4 hr4 hD hI ht he
    go_wp2_with fail
    refine (ref_with a d s _ _ _ _ _ HD4.out HR4.out HS.out hd hs).mono ?_
    rintro e w5 ⟨v5, rfl, hr5, hb5⟩
    obtain ⟨b5, o5, c5, A5, c6, rfl, _, _, _, _⟩ := RdA_open hr5 hsh2
    have hR5 := H4.out.1.grow hb5
    obtain ⟨y0, y1, y2, y3⟩ := hR5.two
    have hr6 : RdA (set2 w5 (w.heap.size + 1) (.slice (some ⟨b5, o5, none⟩) 4 c5) (.slice A5 a.ints.length c6)) _ _ _ := hr5.set2 (b := w.heap.size + 1) fun k hk => by have := H4.out.2.2; rcases hk with (hk | hk) | hk <;> omega
    have hb6 := (H4.out.2.1.trans (hb5.mono H4.out.2.1.size)).trans (below_set2 (b := w.heap.size + 1) (v0 := .slice (some ⟨b5, o5, none⟩) 4 c5) (v1 := .slice A5 a.ints.length c6) (Nat.le_succ _))
    have H := Lib.hid (And.intro (hr6.mono (F' := fun k => F k ∨ w.heap.size ≤ k) fun k hk => by have := H4.out.2.2; rcases hk with (hk | hk) | hk; exact .inl hk.1; exact .inr (by omega); exact .inr (by omega)) hb6)
    clear hr6 hb6 hr5 hb5 hR5 q0 q1
    go_wp2_with fail
    exact bodyPost_ret (v := .tuple #[.agg #[.slice (some ⟨b5, o5, none⟩) 4 c5, .slice A5 a.ints.length c6], .int .i64 0]) (by simp [results, Try.results38, go_sem, *]) rfl ⟨_, rfl, H.out.1, H.out.2⟩
  · rw [if_neg he] at ht
    obtain ⟨w4, hw4, hA4, hR4, hB4, hs4, hr4⟩ := KEY.out ((at8 cl n - 1) % 256) (by omega)
    have hm : (at8 cl n % 2 == 0) = false := by simpa using he
    obtain ⟨q0, q1, _, _⟩ := hA4.two
    have H4 := Lib.hid (And.intro hR4 (And.intro hB4 hs4))
    have HR4 := Lib.hid hr4
    have HD4 := Lib.hid (⟨_, _, rfl, okBBB.mono (okBBB.grow hD hB4) fun _ hk => .inl hk, okIs.mono (okIs.grow hI hB4) fun _ hk => .inl hk⟩ : RdA w4 (fun k => F k ∧ k < w.heap.size ∨ w.heap.size + 2 ≤ k) (.agg #[.slice (some ⟨b0, o0, none⟩) 4 c0, .slice Ai a.ints.length ci]) a)
    clear hA4 hR4 hB4 hs4 hr4 hD hI ht he
    go_wp2_with fail
    refine (ref_with a d s _ _ _ _ _ HD4.out HR4.out HS.out hd hs).mono ?_
    rintro e w5 ⟨v5, rfl, hr5, hb5⟩
    obtain ⟨b5, o5, c5, A5, c6, rfl, _, _, _, _⟩ := RdA_open hr5 hsh2
    have hR5 := H4.out.1.grow hb5
    obtain ⟨y0, y1, y2, y3⟩ := hR5.two
    have hr6 : RdA (set2 w5 (w.heap.size + 1) (.slice (some ⟨b5, o5, none⟩) 4 c5) (.slice A5 a.ints.length c6)) _ _ _ := hr5.set2 (b := w.heap.size + 1) fun k hk => by have := H4.out.2.2; rcases hk with (hk | hk) | hk <;> omega
    have hb6 := (H4.out.2.1.trans (hb5.mono H4.out.2.1.size)).trans (below_set2 (b := w.heap.size + 1) (v0 := .slice (some ⟨b5, o5, none⟩) 4 c5) (v1 := .slice A5 a.ints.length c6) (Nat.le_succ _))
    have H := Lib.hid (And.intro (hr6.mono (F' := fun k => F k ∨ w.heap.size ≤ k) fun k hk => by have := H4.out.2.2; rcases hk with (hk | hk) | hk; exact .inl hk.1; exact .inr (by omega); exact .inr (by omega)) hb6)
    clear hr6 hb6 hr5 hb5 hR5 q0 q1
    go_wp2_with fail
    exact bodyPost_ret (v := .tuple #[.agg #[.slice (some ⟨b5, o5, none⟩) 4 c5, .slice A5 a.ints.length c6], .int .i64 0]) (by simp [results, Try.results38, go_sem, *]) rfl ⟨_, rfl, H.out.1, H.out.2⟩
end Go.Proofs.Ytlbnkoahkfhimaa

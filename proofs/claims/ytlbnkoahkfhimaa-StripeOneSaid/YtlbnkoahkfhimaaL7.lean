/- Chapter 7: the closed fact of its statements. -/
import Derived.Test.YtlbnkoahkfhimaaC8e
import Derived.Test.YtlbnkoahkfhimaaPureE
namespace Go.Proofs.Ytlbnkoahkfhimaa
set_option linter.unusedVariables false
open Go Go.RowKit M
theorem M.OwnL.bld_ {α : Type} {R : Rel α} (o : Ok R) {E : TypeId} {w : World} {F : Fp} {v : Value} {xs : List α} {b : Nat} (h : OwnL R E w F v xs) (hF : ∀ k, F k → b ≤ k) : Bld R E w b F v xs := by
  obtain ⟨fs, h1, h2, h3⟩ := h
  have := (h3.bld hF).imp (S := R) Prod.fst fun {F u x} hx => o.mono hx.1 fun k hk => (hx.2 k hk).1
  rwa [zip_fst xs fs h1] at this
/-- A made stripe's cells, some of them none. -/
theorem made_ok {D : List Bs} {s : Nat} (hD : D.length = 4) (h4 : Blocks4 D) (hs : s < 3) {d : Nat} (hd : d < 4) : okC (makeL D s) s d = true := okC_true.2 (by rw [make_read hD h4 hs hd])
theorem okC_set {l : List Bs} {s e d : Nat} (hd : d < l.length) : okC (l.set d []) s e = if e = d then false else okC l s e := by
  unfold okC
  by_cases h : e = d
  · subst h
    rw [if_pos rfl]
    simp [List.getD, List.getElem?_set_self hd, readC_nil]
  · rw [if_neg h]
    simp [List.getD, List.getElem?_set_ne (Ne.symm h)]
theorem made_two {D : List Bs} {s one two : Nat} (hD : D.length = 4) (h4 : Blocks4 D) (hs : s < 3) (h1 : one < two) (h2 : two < 4) : badL (((makeL D s).set one []).set two []) s = [one, two] ∧ dataL (((makeL D s).set one []).set two []) s = ([], 9) := by
  have hl : (makeL D s).length = 4 := by rw [makeL_len, hD]
  have hk : ∀ e, e < 4 → okC (((makeL D s).set one []).set two []) s e = if e = two then false else if e = one then false else true := fun e he => by
    rw [okC_set (by rw [List.length_set]; omega), okC_set (by omega), made_ok hD h4 hs he]
  have k0 := hk 0 (by decide)
  have k1 := hk 1 (by decide)
  have k2 := hk 2 (by decide)
  have k3 := hk 3 (by decide)
  have hb : badL (((makeL D s).set one []).set two []) s = [one, two] := by
    rw [bad_four (by rw [List.length_set, List.length_set, hl])]
    have hone : one < 3 := by omega
    match two, h2, one, h1 with
    | 1, _, 0, _ => simp at k0 k1 k2 k3; simp [k0, k1, k2, k3]
    | 2, _, 0, _ => simp at k0 k1 k2 k3; simp [k0, k1, k2, k3]
    | 2, _, 1, _ => simp at k0 k1 k2 k3; simp [k0, k1, k2, k3]
    | 3, _, 0, _ => simp at k0 k1 k2 k3; simp [k0, k1, k2, k3]
    | 3, _, 1, _ => simp at k0 k1 k2 k3; simp [k0, k1, k2, k3]
    | 3, _, 2, _ => simp at k0 k1 k2 k3; simp [k0, k1, k2, k3]
  refine ⟨hb, ?_⟩
  unfold dataL
  rw [if_pos (by rw [hb]; exact Nat.lt_succ_self 1)]
theorem made_one {D : List Bs} {s g : Nat} (hD : D.length = 4) (h4 : Blocks4 D) (hz : xorAll D = zero4) (hs : s < 3) (hg : g < 4) : badL ((makeL D s).set g []) s = [g] ∧ dataL ((makeL D s).set g []) s = (D, 0) := by
  have hl : (makeL D s).length = 4 := by rw [makeL_len, hD]
  have hk : ∀ e, e < 4 → okC ((makeL D s).set g []) s e = if e = g then false else true := fun e he => by
    rw [okC_set (by omega), made_ok hD h4 hs he]
  have hb := bad_only (by rw [List.length_set, hl]) hg hk
  refine ⟨hb, has_dat ⟨by rw [List.length_set, hl], hD, h4, hz, fun e he hok => ?_⟩ (by rw [hb]; exact Nat.lt_irrefl _)⟩
  by_cases h : e = g
  · rw [hk e he, if_pos h] at hok; cases hok
  · have : ((makeL D s).set g []).getD e [] = (makeL D s).getD e [] := by simp [List.getD, List.getElem?_set_ne (Ne.symm h)]
    rw [this, make_read hD h4 hs he]
def l7 : List Bs := cellsA newA.disks 1
def l7a : List Bs := l7.set 2 []
def l7b : List Bs := l7a.set 0 []
def d7a : List Bs := [zero4, zero4, zero4, zero4]
theorem l7_facts : l7.length = 4 ∧ dataL l7a 1 = (d7a, 0) ∧ dataL l7b 1 = ([], 9) ∧ badL l7b 1 = [0, 2] := by decide +kernel
set_option maxRecDepth 100000 in
set_option maxHeartbeats 1600000 in
theorem law7_alive (w : World) : Calls Try.prog 35 #[] w fun e w' => e = .returned (.bool true) ∧ Below w.heap.size w w' := by
  have hsh : Shape newA.disks := good_new.1.shape
  go_enter Try.func35, Try.ntmps35
  go_wp2_with fail
  refine (ref_New _).mono ?_
  rintro e w1 ⟨v1, rfl, hr1, hb1⟩
  obtain ⟨b0, o0, c0, Ai, ci, rfl, _, _, _, _⟩ := RdA_open hr1 hsh
  have hal := below_alloc w1 (.cells #[.slice (some ⟨b0, o0, none⟩) 4 c0, .slice Ai newA.ints.length ci] 41)
  have hr2 := hr1.grow hal
  have hb2 := hb1.trans (hal.mono hb1.size)
  clear hal hr1 hb1
  go_wp2_with fail
  generalize w1.alloc (.cells #[.slice (some ⟨b0, o0, none⟩) 4 c0, .slice Ai newA.ints.length ci] 41) = w2 at *
  refine (stripe_Cells newA 1 _ _ _ hr2 hsh (by decide)).mono ?_
  rintro e w3 ⟨v3, rfl, hv3, hb3⟩
  have hl : (cellsA newA.disks 1).length = 4 := l7_facts.1
  obtain ⟨g, c, rfl, hg0, hg1, hc, hcm⟩ := hv3.form (by rw [hl]; decide)
  unfold maxLen at hcm
  rw [hl] at hv3 hc ⊢
  have hset : Bld RdB 23 _ w2.heap.size (fun k => w2.heap.size ≤ k) _ l7a := hv3.set_ okB (k := 2) (by rw [hl]; decide) (u := .slice none 0 0) (x := []) (RdL.nil_ _ _ _ _ _ (by decide))
  obtain ⟨_, hf0, hf1, _⟩ := hv3.at_ (k := 2) (by rw [hl]; decide)
  have hb4 := hb2.trans (hb3.mono hb2.size) |>.setCell (p := ⟨g, 2, none⟩) (by show w.heap.size ≤ g; have := hb2.size; omega) (.slice none 0 0)
  clear hv3 hb3 hr2
  go_wp2_with fail
  have hr4 := hset.toRd_ okB
  refine (stripe_Data l7a 1 _ _ _ hr4 (by decide)).mono ?_
  rintro e w5 ⟨v5, rfl, hv5, hb5⟩
  rw [l7_facts.2.1] at hv5 ⊢
  change Bld RdB 23 w5 _ _ v5 d7a at hv5
  have hset5 := hset.grow okB hb5
  have hset6 : Bld RdB 23 _ w2.heap.size (fun k => w2.heap.size ≤ k) _ l7b := hset5.set_ okB (k := 0) (by decide) (u := .slice none 0 0) (x := []) (RdL.nil_ _ _ _ _ _ (by decide))
  obtain ⟨_, hf2, hf3, _⟩ := hset5.at_ (k := 0) (by decide)
  have hb6 := (hb4.trans (hb5.mono hb4.size)).setCell (p := ⟨g, 0, none⟩) (by show w.heap.size ≤ g; have := hb2.size; omega) (.slice none 0 0)
  obtain ⟨g5, c5, rfl, hg50, hg51, hc5, hc5m⟩ := hv5.form (by decide)
  unfold maxLen at hc5m
  rw [show d7a.length = 4 from rfl] at hv5 hc5 ⊢
  have hs4 : g < ((w3.setCell ⟨g, 2, none⟩ (.slice none 0 0)).heap.size) := by rw [setCell_size]; exact hg1
  have hx6 := (hv5.setc okB (b := g) (j := 0) (v := .slice none 0 0) (fun k hk => by have := (hv5.blk k hk).1; omega) (fun k hk _ => by omega)).toRd_ okB
  clear hv5 hset hset5 hr4 hb4 hb5
  go_wp2_with fail
  refine (stripe_Data l7b 1 _ _ _ (hset6.toRd_ okB) (by decide)).mono ?_
  rintro e w7 ⟨v7, rfl, hv7, hb7⟩
  rw [l7_facts.2.2.1] at hv7 ⊢
  have hr7 := okBB.grow (hset6.toRd_ okB) hb7
  have hx7 := okBB.grow hx6 hb7
  have hbe := hb6.trans (hb7.mono hb6.size)
  obtain ⟨A7, c7, rfl, _, _⟩ := (hv7.toRd_ okB).shape
  clear hv7 hset6 hb6 hx6 hb7 hf0 hf1 hf2 hf3
  go_wp2_with fail
  refine (stripe_Bad l7b 1 _ _ _ hr7 (by decide)).mono ?_
  rintro e w8 ⟨v8, rfl, hv8, hb8⟩
  rw [l7_facts.2.2.2] at hv8
  have hx8 := okBB.grow hx7 hb8
  have hbf := hbe.trans (hb8.mono hbe.size)
  have hi8 := hv8.toRd_ okI
  obtain ⟨g8, o8, c8, rfl, _, _, _, _⟩ := hi8.form (by decide)
  obtain ⟨u8, hu8, hq8⟩ := RdL_q hi8 (k := 1) (x := 2) rfl
  obtain rfl : u8 = .int .i64 2 := hq8
  obtain ⟨u9, hu9, hq9⟩ := RdL_q hx8 (k := 2) (x := zero4) rfl
  obtain ⟨A9, c9, rfl, _, _⟩ := hq9.shape
  rw [show zero4.length = 4 from rfl] at hu9
  have hl2 : (ints [0, 2]).length = 2 := rfl
  have HX8 := Lib.hid hx8
  clear hv8 hi8 hx7 hr7 hbe hb8 hq9 hx8
  go_wp2_with fail
  refine (stripe_Make d7a 1 _ _ _ HX8.out (by decide) (by decide) (fun b hb => by simp [d7a] at hb; rw [hb]; rfl)).mono ?_
  rintro e w9 ⟨v9, rfl, hv9, hb9⟩
  have hr9 := hv9.toRd okB (R' := RdB) (fun h => h) okB
  obtain ⟨A10, c10, rfl, _, _⟩ := hr9.shape
  have hml : (makeL d7a 1).length = 4 := rfl
  rw [hml]
  clear hv9 hr9
  go_wp2
  go_ret
  exact ⟨rfl, hbf.trans (hb9.mono hbf.size)⟩
end Go.Proofs.Ytlbnkoahkfhimaa

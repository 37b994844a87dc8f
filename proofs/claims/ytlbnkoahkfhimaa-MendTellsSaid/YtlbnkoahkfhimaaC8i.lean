/- Chapter 8: what the reference's Plan computes: the walk. -/
import Derived.Test.YtlbnkoahkfhimaaC8h
import Derived.Test.YtlbnkoahkfhimaaC5e
namespace Go.Proofs.Ytlbnkoahkfhimaa
set_option linter.unusedVariables false
open Go Go.RowKit M
theorem boxes3 (w : World) (a b c : List Value) (T T' T'' : TypeId) : ∃ w1, (((w.alloc (.cells a.toArray T)).alloc (.cells b.toArray T')).alloc (.cells c.toArray T'')) = w1 ∧ BoxAt w1 w.heap.size T a ∧ BoxAt w1 (w.heap.size + 1) T' b ∧ BoxAt w1 (w.heap.size + 1 + 1) T'' c ∧ Below w.heap.size w w1 ∧ w1.heap.size = w.heap.size + 3 := by
  have h0 := boxAt_new w T a
  have h1 := below_alloc w (.cells a.toArray T)
  have h2 := boxAt_new (w.alloc (.cells a.toArray T)) T' b
  have h3 := below_alloc (w.alloc (.cells a.toArray T)) (.cells b.toArray T')
  have h4 := boxAt_new ((w.alloc (.cells a.toArray T)).alloc (.cells b.toArray T')) T'' c
  have h5 := below_alloc ((w.alloc (.cells a.toArray T)).alloc (.cells b.toArray T')) (.cells c.toArray T'')
  rw [alloc_size] at h2
  rw [alloc_size, alloc_size] at h4
  refine ⟨_, rfl, (h0.grow h3).grow h5, h2.grow h5, h4, (h1.trans (h3.mono h1.size)).trans (h5.mono (Nat.le_trans h1.size h3.size)), by rw [alloc_size, alloc_size, alloc_size]⟩
theorem mk4BB (w : World) : (Instr.makeSlice 22 (.int .i64 4) (.int .i64 4)).run Try.prog w = .ok (.slice (some ⟨w.heap.size, 0, none⟩) 4 4) (w.alloc (.cells #[.slice none 0 0, .slice none 0 0, .slice none 0 0, .slice none 0 0] 23)) := by kernel_rfl
def vAt (us : List Value) (n : Nat) : Value := us.getD n (.slice none 0 0)
theorem okRVL : Ok (RdL RV) := okL okRV
/-- The end of it, where there is no plan. -/
theorem plan_none_end {w w' : World} (T : TypeId) (hz : BoxAt w' (w.heap.size + 1 + 1) T [.int .i64 0, .slice none 0 0]) (hb : Below w.heap.size w w') : RdI (set2 w' (w.heap.size + 1 + 1) (.int .i64 0) (.slice none 0 0)) (fun k => w.heap.size ≤ k) (.agg #[.int .i64 0, .slice none 0 0]) (0, []) ∧ Below w.heap.size w (set2 w' (w.heap.size + 1 + 1) (.int .i64 0) (.slice none 0 0)) :=
  ⟨⟨_, rfl, RdL.nil_ _ _ _ _ _ (by decide)⟩, hb.trans (below_set2 (by omega))⟩
set_option maxRecDepth 100000 in
set_option maxHeartbeats 1600000 in
theorem ref_Plan (a : Arr) (d : Deed) (v vd : Value) (F : Fp) {F2 : Fp} (w : World) (h : RdA w F v a) (hd : RdD w F2 vd d) (hsh : Shape a.disks) :
    Calls Try.prog 71 #[v, vd] w fun e w' => ∃ v', e = .returned (.tuple #[v', .int .i64 (planA a.disks d).2]) ∧ RdI w' (fun k => w.heap.size ≤ k) v' (planA a.disks d).1 ∧ Below w.heap.size w w' := by
  obtain ⟨b0, o0, c0, Ai, ci, rfl, hD, hI, hc0, hc1⟩ := RdA_open h hsh
  obtain ⟨dv, rfl, hdv⟩ := hd
  replace hdv := okB.lt hdv
  obtain ⟨Ad, cd, rfl, _, _⟩ := hdv.shape
  obtain ⟨w1, hW, hA, hX, hZ, hB, hsz⟩ := boxes3 w [.slice (some ⟨b0, o0, none⟩) 4 c0, .slice Ai a.ints.length ci] [.int .i64 d.kind, .int .i64 d.n, .int .i64 d.m, .slice Ad d.data.length cd] [.int .i64 0, .slice none 0 0] 41 25 88
  change (((w.alloc (.cells #[.slice (some ⟨b0, o0, none⟩) 4 c0, .slice Ai a.ints.length ci] 41)).alloc (.cells #[.int .i64 d.kind, .int .i64 d.n, .int .i64 d.m, .slice Ad d.data.length cd] 25)).alloc (.cells #[.int .i64 0, .slice none 0 0] 88)) = w1 at hW
  have HSZ := Lib.hid hsz
  have HS := Lib.hid hsh
  clear hsz hsh h
  obtain ⟨y0, y1, y2, y3⟩ := hX.four
  go_enter Try.func71, Try.ntmps71
  go_wp2_with fail
  clear hW
  refine (ref_Wrong d _ _ _ ⟨_, rfl, okB.grow hdv hB⟩).mono ?_
  rintro e w2 ⟨rfl, hb2⟩
  have hB2 := hB.trans (hb2.mono hB.size)
  have hX2 := hX.grow hb2
  have hA2 := hA.grow hb2
  have hZ2 := hZ.grow hb2
  clear y0 y1 y2 y3 hX hA hZ hB hb2
  by_cases hr : wrongI d = 0
  rotate_left
  · have HP := Lib.hid (plan_wrong (D := a.disks) hr)
    obtain ⟨z0, z1, z2, z3⟩ := hZ2.two
    have H := Lib.hid (plan_none_end _ hZ2 hB2)
    have hne : (wrongI d != 0) = true := by simpa using hr
    clear hX2 hA2 hZ2 hB2 hr
    go_wp2_with fail
    exact bodyPost_ret (v := .tuple #[.agg #[.int .i64 0, .slice none 0 0], .int .i64 (wrongI d)]) (by simp [results, Try.results71, go_sem, *]) rfl (by rw [HP.out]; exact ⟨_, rfl, H.out.1, H.out.2⟩)
  rw [hr]
  obtain ⟨⟨n0, n1⟩, _⟩ := wrong_ok hr
  have HR := Lib.hid hr
  obtain ⟨n, hn⟩ : ∃ n : Nat, d.n = n := ⟨d.n.toNat, by omega⟩
  have hn9 : n < 9 := by omega
  have hnt : d.n.toNat = n := by omega
  rw [hn] at hX2
  obtain ⟨s, hs⟩ : ∃ s, n / 3 = s := ⟨_, rfl⟩
  have hs3 : s < 3 := by omega
  have PL := @plan_lost a.disks d hr
  have PH := @plan_had a.disks d hr
  rw [hnt, hs] at PL PH
  have HPL := Lib.hid PL
  have HPH := Lib.hid PH
  have HSN := Lib.hid (show s = d.n.toNat / 3 by rw [hnt, hs])
  obtain ⟨x0, x1, x2, x3⟩ := hA2.two
  obtain ⟨y0, y1, y2, y3⟩ := hX2.four
  have HN := Lib.hid hn
  clear hr n0 n1 hn hnt PL PH
  go_wp2_with fail
  refine (ref_Where n _ hn9).mono ?_
  rintro e w3 ⟨rfl, hb3⟩
  rw [hs]
  clear hs
  have hB3 := hB2.trans (hb3.mono hB2.size)
  have hX3 := hX2.grow hb3
  have hA3 := hA2.grow hb3
  have hZ3 := hZ2.grow hb3
  clear x0 x1 x2 x3 y0 y1 y2 y3 hX2 hA2 hZ2 hB2 hb3
  obtain ⟨x0, x1, x2, x3⟩ := hA3.two
  go_wp2_with fail
  refine (ref_Cells a s _ _ _ ⟨_, _, rfl, okBBB.grow hD hB3, okIs.grow hI hB3⟩ HS.out hs3).mono ?_
  rintro e w4 ⟨v4, rfl, hv4, hb4⟩
  have hr4 := hv4.toRd_ okB
  have HL4 := Lib.hid (show (cellsA a.disks s).length = 4 by rw [cellsA_len, HS.out.1])
  have hB4 := hB3.trans (hb4.mono hB3.size)
  have hX4 := hX3.grow hb4
  have hZ4 := hZ3.grow hb4
  clear x0 x1 x2 x3 hX3 hA3 hZ3 hB3 hb4 hv4
  go_wp2_with fail
  refine (ref_Data (cellsA a.disks s) s _ _ _ hr4 (by rw [HL4.out]; decide)).mono ?_
  rintro e w5 ⟨v5, rfl, hv5, hb5⟩
  have hB5 := hB4.trans (hb5.mono hB4.size)
  have hX5 := hX4.grow hb5
  have hZ5 := hZ4.grow hb5
  clear hX4 hZ4 hB4 hb5 hr4
  by_cases h9 : (dataL (cellsA a.disks s) s).2 = 0
  rotate_left
  · have HP := Lib.hid (HPL.out h9)
    obtain ⟨z0, z1, z2, z3⟩ := hZ5.two
    have H := Lib.hid (plan_none_end _ hZ5 hB5)
    have hne : ((dataL (cellsA a.disks s) s).2 != 0) = true := by simpa using h9
    clear hX5 hZ5 hB5 h9 hv5 HPH HPL
    generalize (dataL (cellsA a.disks s) s).2 = q at *
    go_wp2_with fail
    exact bodyPost_ret (v := .tuple #[.agg #[.int .i64 0, .slice none 0 0], .int .i64 q]) (by simp [results, Try.results71, go_sem, *]) rfl (by rw [HP.out]; exact ⟨_, rfl, H.out.1, H.out.2⟩)
  have HP := Lib.hid (HPH.out h9)
  obtain ⟨q1, q2, _⟩ := data_blocks h9
  rw [HL4.out] at q1
  rw [h9]
  have hr5 := hv5.toRd_ okB
  clear h9 HPL HPH hv5
  obtain ⟨D, hDD⟩ : ∃ D, (dataL (cellsA a.disks s) s).1 = D := ⟨_, rfl⟩
  rw [hDD] at q1 q2 hr5 HP
  obtain ⟨g5, o5, c5, rfl, _, _, hc5, hc5m⟩ := hr5.form (by omega)
  rw [q1] at hr5 hc5 ⊢
  unfold maxLen at hc5m
  have HQ1 := Lib.hid q1
  have HQ2 := Lib.hid q2
  clear hDD q1 q2
  go_wp2_with fail
  refine (ref_NewBlocks _).mono ?_
  rintro e w6 ⟨v6, rfl, hv6, hb6⟩
  obtain ⟨g6, c6, rfl, hg60, hg61, hc6, hc6m⟩ := hv6.form (by decide)
  rw [show newB.length = 9 from rfl] at hv6 hc6 ⊢
  unfold maxLen at hc6m
  have HB6 := Lib.hid hb6
  have HX6 := Lib.hid (hX5.grow hb6)
  have HZ6 := Lib.hid (hZ5.grow hb6)
  have HBB := Lib.hid (hB5.trans (hb6.mono hB5.size))
  have HS5 := Lib.hid hZ5.lt
  clear hX5 hZ5 hB5 hb6
  go_wp2_with fail
  go_loopw [52] (fun i wr => ∃ k : Nat, k ≤ 9 ∧ i = .int .i64 k ∧ Bld RdB 23 wr w5.heap.size (fun _ => True) (.slice (some ⟨g6, 0, none⟩) 9 c6) (blkTo D s k) ∧ Below w5.heap.size w6 wr) (fun i _ => 9 - (intOf i).toNat)
  case atStart => exact ⟨0, Nat.zero_le _, rfl, hv6, Below.refl _ _⟩
  case round =>
    obtain ⟨k, hk, rfl, hO, hlw⟩ := hrel
    have HLW := Lib.hid hlw
    by_cases hlt : k < 9
    · obtain ⟨t, ht⟩ : ∃ t, k / 3 = t := ⟨_, rfl⟩
      obtain ⟨x, hx⟩ : ∃ x, whereN k = x := ⟨_, rfl⟩
      have hx4 : x < 4 := by rw [← hx]; exact (whereN_ne hlt).2
      have HSame := Lib.hid (@blkTo_same D s k hlt)
      have HOther := Lib.hid (@blkTo_other D s k)
      have HO := Lib.hid hO
      clear hO hlw hv6
      go_wp2_with fail
      refine (ref_Where k _ hlt).mono ?_
      rintro e w7 ⟨rfl, hb7⟩
      rw [where_eq, ht, hx]
      have HO7 := Lib.hid (HO.out.grow okB hb7)
      have HLW7 := Lib.hid (HLW.out.trans (hb7.mono (Nat.le_trans HB6.out.size HLW.out.size)))
      by_cases hts : t = s
      · subst hts
        have he := HSame.out ht
        rw [hx] at he
        have HE := Lib.hid he
        have hrD := okBB.grow hr5 (HB6.out.trans HLW7.out)
        obtain ⟨u, hu, hRu⟩ := RdL_q hrD (k := x) (x := D.getD x []) (by simp [List.getD, List.getElem?_eq_getElem (show x < D.length by have := HQ1.out; omega)])
        have hset := HO7.out.set_ okB (k := k) (by rw [blkTo_len]; exact hlt) (u := u) (x := D.getD x []) (okB.mono hRu fun k hk => ⟨by omega, trivial⟩)
        obtain ⟨_, hfz0, hfz, _⟩ := HO7.out.at_ (k := k) (by rw [blkTo_len]; exact hlt)
        obtain ⟨Au, cu, rfl, _, _⟩ := hRu.shape
        have hbs := HLW7.out.setCell (p := ⟨g6, k, none⟩) hg60 (.slice Au (D.getD x []).length cu)
        rw [he] at hset
        have H := Lib.hid (And.intro hset hbs)
        clear hset hbs hRu hrD he ht hx hb7
        go_wp2
        go_roundw
        case rel => exact ⟨k + 1, by omega, by go_num, H.out.1, H.out.2⟩
        case measure => simp [intOf]; omega
      · have hne : ((t : Int) == (s : Int)) = false := by simp; omega
        have HE := Lib.hid (HOther.out (by rw [ht]; exact hts))
        clear ht hx hb7 hts
        go_wp2
        go_roundw
        case rel => exact ⟨k + 1, by omega, by go_num, by rw [HE.out]; exact HO7.out, HLW7.out⟩
        case measure => simp [intOf]; omega
    · obtain rfl : k = 9 := by omega
      rw [blkTo_all] at hO
      have hr9 := hO.toRd_ okB
      clear hv6 hO
      rename World => w7
      have hs5 := HS5.out
      have hX7 := HX6.out.keep hlw (by omega)
      have HZ7 := Lib.hid (HZ6.out.keep hlw (by omega))
      have HB7 := Lib.hid (HBB.out.trans (hlw.mono (by omega)))
      have HR9 := Lib.hid hr9
      have HDV := Lib.hid (okB.grow hdv HB7.out)
      obtain ⟨y0, y1, y2, y3⟩ := hX7.four
      have hsz7 := Nat.le_trans HB6.out.size hlw.size
      clear hr9 hX7 hlw hdv hD hI hr5 hk hlt
      go_wp2_with fail
      refine (ref_Do _ d _ _ _ _ (okBB.mono HR9.out (F' := fun _ => True) fun _ _ => trivial) ⟨_, by rw [HN.out], okB.mono HDV.out fun _ _ => trivial⟩ (blocksQ_len _) HR.out).mono ?_
      rintro e w8 ⟨v8, rfl, hv8, hb8⟩
      obtain ⟨hway, hway4⟩ := plan_way HR.out HQ1.out HQ2.out HSN.out rfl
      have hl9 : (doD (blocksQ fun t => if t = s then D else List.replicate 4 zero4) d).length = 9 := by rw [doD_length, blocksQ_len]
      have hr8 := hv8.toRd_ okB
      generalize doD (blocksQ fun t => if t = s then D else List.replicate 4 zero4) d = l9 at *
      obtain ⟨us, hus, husl, husR⟩ := hr8.vals okB
      rw [hl9] at husl
      obtain ⟨g8, o8, c8, rfl, _, _, hc8, hc8m⟩ := hus.form (by omega)
      rw [husl] at hus hc8 ⊢
      unfold maxLen at hc8m
      have hb7 := HB7.out
      have HZ8 := Lib.hid (HZ7.out.grow hb8)
      have HB8 := Lib.hid (hb7.trans (hb8.mono hb7.size))
      have hout : Bld RV 23 (w8.alloc (.cells #[.slice none 0 0, .slice none 0 0, .slice none 0 0, .slice none 0 0] 23)) w8.heap.size (fun _ => True) (.slice (some ⟨w8.heap.size, 0, none⟩) 4 4) (outG (vAt us) (.slice none 0 0) s 0) := Bld.lit okRV (us := [.slice none 0 0, .slice none 0 0, .slice none 0 0, .slice none 0 0]) 23 (Nat.le_refl _) rfl (by decide) fun j u x hu hx => by
        change [Value.slice none 0 0, .slice none 0 0, .slice none 0 0, .slice none 0 0][j]? = some x at hx
        have hux : u = x := by rw [hu] at hx; exact Option.some.inj hx
        subst hux
        refine ⟨rfl, ?_⟩
        have := List.mem_of_getElem? hu
        simp at this
        rw [this]
        rfl
      have hb9 := below_alloc w8 (.cells #[.slice none 0 0, .slice none 0 0, .slice none 0 0, .slice none 0 0] 23)
      have hs8 : w.heap.size + 1 + 1 < w8.heap.size := HZ8.out.lt
      have HOut := Lib.hid hout
      have HB9 := Lib.hid hb9
      have HWay := Lib.hid (And.intro hway hway4)
      have HUR := Lib.hid husR
      have HL9 := Lib.hid hl9
      have hmk := mk4BB w8
      clear hout hb9 hway hway4 husR hv8 hr8 hb8 hb7 y0 y1 y2 y3 hl9
      go_wp2_with fail
      clear hmk
      generalize w8.alloc (.cells #[.slice none 0 0, .slice none 0 0, .slice none 0 0, .slice none 0 0] 23) = w9 at *
      go_loopw [18, 78] (fun u i wr => ∃ k : Nat, k ≤ 9 ∧ i = .int .i64 k ∧ Bld RV 23 wr w8.heap.size (fun _ => True) (.slice (some ⟨w8.heap.size, 0, none⟩) 4 4) (outG (vAt us) (.slice none 0 0) s k) ∧ Bld RV 23 wr w8.heap.size (fun _ => True) u (lG (vAt us) s k) ∧ (∀ k, u.ownBlock = some k → k ≠ w8.heap.size) ∧ Below w8.heap.size w9 wr) (fun _ i _ => 9 - (intOf i).toNat)
      case atStart => exact ⟨0, Nat.zero_le _, rfl, HOut.out, Bld.nil_ _ _ _ _ _, fun k hk => by simp [Value.ownBlock] at hk, Below.refl _ _⟩
      case round =>
        obtain ⟨k, hk, rfl, hO, hL, hne, hlw⟩ := hrel
        have H0 := Lib.hid (And.intro hO (And.intro hL (And.intro hne hlw)))
        have hus2 := okRVL.grow hus (HB9.out.trans hlw)
        by_cases hlt : k < 9
        · obtain ⟨t, ht⟩ : ∃ t, k / 3 = t := ⟨_, rfl⟩
          obtain ⟨x, hx⟩ : ∃ x, whereN k = x := ⟨_, rfl⟩
          have hx4 : x < 4 := by rw [← hx]; exact (whereN_ne hlt).2
          obtain ⟨uk, huk⟩ : ∃ u, us[k]? = some u := ⟨us[k]'(by omega), List.getElem?_eq_getElem _⟩
          obtain ⟨_, hu, hu2, h1c⟩ := RdL_q hus2 huk
          subst hu2
          have hkl : k < l9.length := by have := HL9.out; omega
          obtain ⟨Ak, ck, rfl, _, _⟩ := (HUR.out k _ _ huk (List.getElem?_eq_getElem hkl)).shape
          have HF := Lib.hid (show vAt us k = .slice Ak l9[k].length ck by simp [vAt, List.getD, huk])
          clear hO hL hne hlw huk hus2
          go_wp2_with fail
          refine (ref_Where k _ hlt).mono ?_
          rintro e w10 ⟨rfl, hb10⟩
          rw [where_eq, ht, hx]
          have HLW10 := Lib.hid (H0.out.2.2.2.trans (hb10.mono (Nat.le_trans HB9.out.size H0.out.2.2.2.size)))
          have HO10 := Lib.hid (H0.out.1.grow okRV hb10)
          have HL10 := Lib.hid (H0.out.2.1.grow okRV hb10)
          by_cases hts : t = s
          · subst hts
            have e1 := outG_same (f := vAt us) (z := .slice none 0 0) ht
            have e2 := lG_same (f := vAt us) ht
            rw [hx] at e1
            rw [HF.out] at e1 e2
            have hset := HO10.out.set_ okRV (k := x) (by rw [outG_len]; exact hx4) (u := .slice Ak l9[k].length ck) (x := .slice Ak l9[k].length ck) ⟨rfl, rfl⟩
            obtain ⟨_, hfz0, hfz, _⟩ := HO10.out.at_ (k := x) (by rw [outG_len]; exact hx4)
            rw [← e1] at hset
            have hLs := HL10.out.setcV (b := w8.heap.size) (j := x) (v := .slice Ak l9[k].length ck) H0.out.2.2.1
            have hbs := HLW10.out.setCell (p := ⟨w8.heap.size, x, none⟩) (Nat.le_refl _) (.slice Ak l9[k].length ck)
            have HE2 := Lib.hid e2
            have HT := Lib.hid (show ((lG (vAt us) t k).length + 1) * 24 ≤ 140737488355328 by have := lG_len (f := vAt us) (s := t) (k := k); omega)
            have hsz10 : w8.heap.size ≤ w10.heap.size := Nat.le_trans HB9.out.size (HLW10.out.size)
            obtain ⟨wS, hwS⟩ : ∃ wS, w10.setCell ⟨w8.heap.size, x, none⟩ (.slice Ak l9[k].length ck) = wS := ⟨_, rfl⟩
            rw [hwS] at hset hLs hbs
            have hszS : wS.heap.size = w10.heap.size := by rw [← hwS, setCell_size]
            have HSet := Lib.hid hset
            have HLs := Lib.hid hLs
            have HBs := Lib.hid hbs
            have HNe := Lib.hid H0.out.2.2.1
            clear hset hLs hbs e1 e2 hb10 ht hx
            go_wp2_with (at_builtin; refine wpList_append_bld _ rfl _ _ 22 (by rfl) okRV slBB w8.heap.size (fun _ => True) u18 _ (lG (vAt us) t k) [.slice Ak l9[k].length ck] (by rfl) (by rfl) (HLs.out.alloc okRV _) (src_one okRV HLs.out trivial ⟨rfl, rfl⟩ _ (by rw [hszS])) HT.out ?c2 ?c3)
            case c2 => rw [alloc_size, hszS]; omega
            case c3 =>
            intro v' w' g1 g2 g3 g4
            rw [← HE2.out] at g1
            have hO' := (((HSet.out.alloc okRV (.cells #[.slice Ak l9[k].length ck] 23)).anyG (G' := fun _ => False)).keep okRV g3 (.inr fun e => HNe.out _ e.symm rfl) fun _ _ hk => False.elim hk).anyG (G' := fun _ => True)
            have hne' : ∀ k, v'.ownBlock = some k → k ≠ w8.heap.size := fun k hk e => by
              rcases g4 with g4 | g4
              · exact HNe.out k (g4 ▸ hk) e
              · rw [hk] at g4
                injection g4 with g4
                omega
            have H := Lib.hid (And.intro hO' (And.intro g1 (And.intro hne' (HBs.out.trans ((below_alloc wS (.cells #[.slice Ak l9[k].length ck] 23)).mono (by rw [hszS]; exact hsz10) |>.trans g2)))))
            clear hO' g1 g2 g3 g4 hne'
            go_wp2
            go_roundw
            case rel => exact ⟨k + 1, by omega, by go_num, H.out.1, H.out.2.1, H.out.2.2.1, H.out.2.2.2⟩
            case measure => simp [intOf]; omega
          · have hne : ((t : Int) == (s : Int)) = false := by simp; omega
            have e1 := outG_other (f := vAt us) (z := .slice none 0 0) (s := s) (k := k) (by rw [ht]; exact hts)
            have e2 := lG_other (f := vAt us) (s := s) (k := k) (by rw [ht]; exact hts)
            have HE := Lib.hid (And.intro e1 e2)
            clear ht hx hb10 hts e1 e2
            go_wp2
            go_roundw
            case rel => exact ⟨k + 1, by omega, by go_num, by rw [HE.out.1]; exact HO10.out, by rw [HE.out.2]; exact HL10.out, H0.out.2.2.1, HLW10.out⟩
            case measure => simp [intOf]; omega
        · obtain rfl : k = 9 := by omega
          clear hk hlt
          obtain ⟨hO, hL, hne, hlw⟩ := H0.out
          have hs9 : w8.heap.size < wr.heap.size := (hO.blk _ rfl).2
          have hB9 := HB8.out.trans ((HB9.out.trans hlw).mono (by omega))
          have hUR := fun (n : Nat) (hn : n < 9) => (okB.grow (HUR.out n (vAt us n) (l9.getD n []) (by unfold vAt; simp [List.getD, List.getElem?_eq_getElem (show n < us.length by omega)]) (by have := HL9.out; simp [List.getD, List.getElem?_eq_getElem (show n < l9.length by omega)])) (HB9.out.trans hlw) : RdB wr (fun k => k < w8.heap.size) (vAt us n) (l9.getD n []))
          have hZ9 := HZ8.out.grow (HB9.out.trans hlw)
          obtain ⟨hlen, hrel⟩ := lG_rel (f := vAt us) (g := fun n => l9.getD n []) (R := fun u b => RdB wr (fun k => k < wr.heap.size) u b) hs3 fun n hn => okB.mono (hUR n hn) fun k hk => by omega
          have hLr : RdBB wr (fun k => k < wr.heap.size) u18 (lG (fun n => l9.getD n []) s 9) := (hL.toRd_ okRV).of_vals hlen hrel
          have HUR9 := Lib.hid hUR
          have HO9 := Lib.hid hO
          have HB10 := Lib.hid hB9
          have HZ9 := Lib.hid hZ9
          have HLR := Lib.hid hLr
          rename World => w10
          clear hO hL hne hlw hB9 hUR hZ9 hlen hrel hLr
          go_wp2_with fail
          obtain ⟨r, hr⟩ : ∃ r, 3 - s = r := ⟨_, rfl⟩
          have hr4 : r < 4 := by omega
          obtain ⟨way1, way4⟩ := HWay.out
          rw [hr] at way1
          have HWay2 := Lib.hid way1
          have HWay4 := Lib.hid way4
          have Hr := Lib.hid hr
          refine (ref_Spare s _ (by omega) (by omega)).mono ?_
          rintro e w11 ⟨rfl, hb11⟩
          rw [show (3 : Int) - (s : Int) % 4 = (r : Int) by omega]
          clear way1 way4 hr
          go_wp2_with fail
          refine (ref_Xor _ _ _ _ (okBB.grow HLR.out hb11) HWay4.out).mono ?_
          rintro e w12 ⟨v12, rfl, hv12, hb12⟩
          have hr12 := okB.lt ((hv12.bytes (G' := fun k => w11.heap.size ≤ k)).toRd ok8 (F := fun k => w11.heap.size ≤ k) (fun _ hk => hk) (fun _ hk => hk))
          obtain ⟨A12, c12, rfl, _, _⟩ := hr12.shape
          rw [xorAll_length] at hr12 ⊢
          have hbs := hb11.trans (hb12.mono hb11.size)
          have hO12 := HO9.out.grow okRV hbs
          have h3s : r < (outG (vAt us) (.slice none 0 0) s 9).length := by rw [outG_len]; omega
          have hset := hO12.set_ okRV (k := r) h3s (u := .slice A12 4 c12) (x := .slice A12 4 c12) ⟨rfl, rfl⟩
          obtain ⟨_, hfz0, hfz, _⟩ := hO12.at_ h3s
          have hUR := fun (n : Nat) (hn : n < 9) => okB.setc (okB.grow (HUR9.out n hn) hbs) (b := w8.heap.size) (j := r) (v := .slice A12 4 c12) (fun k hk => by omega)
          have hx12 := okB.setc hr12 (b := w8.heap.size) (j := r) (v := .slice A12 4 c12) (fun k hk => by have := hb11.size; omega)
          have hZ12 := (HZ9.out.grow hbs).far (b' := w8.heap.size) (j := r) (v := .slice A12 4 c12) (by omega)
          have hB12 := (HB10.out.trans (hbs.mono HB10.out.size)).setCell (p := ⟨w8.heap.size, r, none⟩) (by show w.heap.size ≤ w8.heap.size; omega) (.slice A12 4 c12)
          have hP4 : (planData D d).length = 4 := (plan_zero HR.out HQ1.out HQ2.out).1
          have hrel := outG_rel (f := vAt us) (g := fun n => l9.getD n []) (z := .slice none 0 0) (y := []) (x := .slice A12 4 c12) (u := xorAll (lG (fun n => l9.getD n []) s 9)) (R := fun u b => RdB (w12.setCell ⟨w8.heap.size, r, none⟩ (.slice A12 4 c12)) (fun _ => True) u b) hs3 (fun n hn => okB.mono (hUR n hn) fun _ _ => trivial) (okB.mono hx12 fun _ _ => trivial)
          rw [Hr.out, HWay2.out] at hrel
          have hPr : RdBB (w12.setCell ⟨w8.heap.size, r, none⟩ (.slice A12 4 c12)) (fun _ => True) (.slice (some ⟨w8.heap.size, 0, none⟩) 4 4) (planData D d) := RdL.of_vals ((okL okRV).mono (hset.toRd_ okRV) fun _ _ => trivial) (by rw [List.length_set, outG_len, hP4]) hrel
          have HP4 := Lib.hid hP4
          have H := Lib.hid (And.intro hPr (And.intro hZ12 hB12))
          clear hPr hZ12 hB12 hrel hx12 hUR hset hO12 hbs hr12 hv12 hb11 hb12 hP4
          go_wp2_with fail
          refine (ref_Make (planData D d) s _ _ _ H.out.1 (by omega) (by rw [HP4.out]; decide) (plan_zero HR.out HQ1.out HQ2.out).2.1).mono ?_
          rintro e w13 ⟨v13, rfl, hv13, hb13⟩
          have hr13 := hv13.toRd okB (R' := RdB) (fun h => h) okB
          obtain ⟨A13, c13, rfl, _, _⟩ := hr13.shape
          have hZ13 := H.out.2.1.grow hb13
          obtain ⟨z0, z1, z2, z3⟩ := hZ13.two
          have hB13 := H.out.2.2.trans (hb13.mono H.out.2.2.size)
          have hZl := H.out.2.1.lt
          have hr14 : RdBB (set2 w13 (w.heap.size + 1 + 1) (.int .i64 s) (.slice A13 (makeL (planData D d) s).length c13)) _ _ _ := okBB.set2 hr13 (b := w.heap.size + 1 + 1) fun k hk => by omega
          have hb14 := hB13.trans (below_set2 (b := w.heap.size + 1 + 1) (v0 := .int .i64 s) (v1 := .slice A13 (makeL (planData D d) s).length c13) (by omega))
          have HF := Lib.hid (And.intro (okBB.mono hr14 (F' := fun k => w.heap.size ≤ k) fun k hk => by omega) hb14)
          clear hr14 hb14 hr13 hv13 hb13 hZ13 hB13 hZl
          go_wp2_with fail
          exact bodyPost_ret (v := .tuple #[.agg #[.int .i64 s, .slice A13 (makeL (planData D d) s).length c13], .int .i64 0]) (by simp [results, Try.results71, go_sem, *]) rfl (by rw [HP.out]; exact ⟨_, rfl, ⟨_, rfl, HF.out.1⟩, HF.out.2⟩)
end Go.Proofs.Ytlbnkoahkfhimaa

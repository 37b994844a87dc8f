/- Chapter 8: ArrayStripe holds for every input: the call returns true, and each argument reads behind it as it read before. -/
import Derived.Test.YtoendmbgfbhidaaL8b
import Derived.Test.YtoendmbgfbhidaaOpenS
import Derived.Test.YtoendmbgfbhidaaZg
namespace Go.Proofs.Ytoendmbgfbhidaa
set_option linter.unusedVariables false
open Go Go.RowKit M
theorem deed_n {d : Deed} (hr : wrongI d = 0) : ∃ n s : Nat, d.n = n ∧ d.n.toNat / 3 = s ∧ s < 3 ∧ wrap64 ((n : Int).tdiv 3) = (s : Int) ∧ (n : Int) / 3 = (s : Int) ∧ IntKind.i64.wrap (s : Int) = (s : Int) := by
  obtain ⟨⟨n0, n1⟩, _⟩ := wrong_ok hr
  obtain ⟨u1, u2, _, u4, _⟩ := quos d.n.toNat (d.n.toNat / 3) (d.n.toNat % 3) (by omega) rfl rfl
  rw [show ((d.n.toNat : Nat) : Int) = d.n by omega] at u1 u2
  exact ⟨d.n.toNat, d.n.toNat / 3, by omega, rfl, by omega, by rw [show ((d.n.toNat : Nat) : Int) = d.n by omega]; exact u1, by rw [show ((d.n.toNat : Nat) : Int) = d.n by omega]; exact u2, u4⟩
theorem ne_nat {k s : Nat} (h : k ≠ s) : ((k : Int) != (s : Int)) = true := by
  rw [bne_iff_ne]
  omega
theorem meas3 {k : Nat} (h : k < 3) : 3 - (intOf (.int .i64 ((k + 1 : Nat) : Int))).toNat < 3 - (intOf (.int .i64 (k : Int))).toNat := by
  simp [intOf]
  omega
theorem wrap3 {k : Nat} (h : k < 3) : wrap64 ((k : Int) + 1) = ((k + 1 : Nat) : Int) := by
  unfold wrap64
  omega
theorem up3 {k : Nat} (h : k < 3) : Value.int .i64 (wrap64 ((k : Int) + 1)) = .int .i64 ((k + 1 : Nat) : Int) := by rw [wrap3 h]
theorem meas3'' {k : Nat} (h : k < 3) : 3 - (intOf (.int .i64 (wrap64 ((k : Int) + 1)))).toNat < 3 - (intOf (.int .i64 (k : Int))).toNat := by rw [wrap3 h]; exact meas3 h
theorem meas3' {k : Nat} (h : k < 3) : 3 - (intOf (.int .i64 ((k : Int) + 1))).toNat < 3 - (intOf (.int .i64 (k : Int))).toNat := by
  simp [intOf]
  omega
theorem stripe_do {a : Arr} (hs : Shape a.disks) {d : Deed} (he : (doA a d).2 = 0) : wrongI d = 0 ∧ (∀ t, t ≠ d.n.toNat / 3 → cellsA (doA a d).1.disks t = cellsA a.disks t) ∧
    ∃ P, dataL (cellsA (doA a d).1.disks (d.n.toNat / 3)) (d.n.toNat / 3) = (P, 0) ∧ P.length = 4 ∧ Blocks4 P ∧ xorAll P = zero4 ∧ badL (cellsA (doA a d).1.disks (d.n.toNat / 3)) (d.n.toNat / 3) = [] := by
  have hp : (planA a.disks d).2 = 0 := by
    by_cases hp : (planA a.disks d).2 = 0
    · exact hp
    · rw [doA_bad hp] at he; exact he
  have hr := (plan_form hs hp).1
  obtain ⟨⟨n0, n1⟩, _⟩ := wrong_ok hr
  have h9 : (dataL (cellsA a.disks (d.n.toNat / 3)) (d.n.toNat / 3)).2 = 0 := by
    by_cases h9 : (dataL (cellsA a.disks (d.n.toNat / 3)) (d.n.toNat / 3)).2 = 0
    · exact h9
    · rw [plan_lost hr h9] at hp; exact hp
  have hs3 : d.n.toNat / 3 < 3 := by omega
  obtain ⟨q1, q2, _⟩ := data_blocks h9
  have q4 : (dataL (cellsA a.disks (d.n.toNat / 3)) (d.n.toNat / 3)).1.length = 4 := by rw [q1, cellsA_len, hs.1]
  obtain ⟨p1, p2, p3⟩ := plan_zero hr q4 q2
  have e : doA a d = (putA a (((d.n.toNat / 3 : Nat) : Int), makeL (planData (dataL (cellsA a.disks (d.n.toNat / 3)) (d.n.toNat / 3)).1 d) (d.n.toNat / 3)), 0) := by
    rw [doA_okA hp, plan_had hr h9]; rfl
  rw [e]
  generalize planData (dataL (cellsA a.disks (d.n.toNat / 3)) (d.n.toNat / 3)).1 d = P at *
  obtain ⟨m1, m2⟩ := has_make p1 p2 p3 hs3
  have e1 : cellsA (putA a (((d.n.toNat / 3 : Nat) : Int), makeL P (d.n.toNat / 3))).disks (d.n.toNat / 3) = makeL P (d.n.toNat / 3) := put_cells hs hs3 (by rw [makeL_len, p1]) (make_lens p2 _)
  refine ⟨hr, fun t ht => put_others hs hs3 (make_lens p2 _) (Nat.le_refl 4) ht, P, ?_, p1, p2, p3, ?_⟩
  · rw [e1]; exact has_dat m1 (by rw [m2]; decide)
  · rw [e1]; exact m2
set_option maxRecDepth 100000 in
set_option maxHeartbeats 3200000 in
theorem arrayStripe_walk (l : List Step) (vl : Value) (d : Deed) (vd : Value) (w : World) (hl : RdSts w (fun _ => True) vl l) (hd : RdD w (fun _ => True) vd d) :
    Calls Try.prog 5 #[vl, vd] w fun e w' => e = .returned (.bool true) ∧ Below w.heap.size w w' := by
  obtain ⟨Ast, cst, rfl, _, _⟩ := id hl
  obtain ⟨dv, rfl, hdv⟩ := hd
  replace hdv := okB.lt hdv
  obtain ⟨Ad, cd, rfl, _, _⟩ := hdv.shape
  have hX0 := boxAt_new w 25 [.int .i64 d.kind, .int .i64 d.n, .int .i64 d.m, .slice Ad d.data.length cd]
  have hl1 := below_alloc w (.cells #[.int .i64 d.kind, .int .i64 d.n, .int .i64 d.m, .slice Ad d.data.length cd] 25)
  obtain ⟨wB, hwB⟩ : ∃ x, w.alloc (.cells #[.int .i64 d.kind, .int .i64 d.n, .int .i64 d.m, .slice Ad d.data.length cd] 25) = x := ⟨_, rfl⟩
  change BoxAt (w.alloc (.cells #[.int .i64 d.kind, .int .i64 d.n, .int .i64 d.m, .slice Ad d.data.length cd] 25)) _ _ _ at hX0
  rw [hwB] at hX0 hl1
  have HBd := Lib.hid hX0
  have HDd := Lib.hid (okB.grow hdv hl1)
  have HL0 := Lib.hid (hl.below hl1 fun _ _ hk => hk)
  have HBel := Lib.hid hl1
  clear hl hX0 hl1 hdv
  go_enter Try.func5, Try.ntmps5
  go_wp2_with fail
  clear hwB
  refine (law8_alive _).mono ?_
  rintro e w0 ⟨rfl, hb⟩
  replace HBel := Lib.hid (HBel.out.trans (hb.mono HBel.out.size))
  replace HBd := Lib.hid (HBd.out.grow hb)
  replace HDd := Lib.hid (okB.grow HDd.out hb)
  have HL := Lib.hid (HL0.out.below hb fun _ _ hk => hk)
  clear hb HL0
  obtain ⟨pHBd0, pHBd1, pHBd2, pHBd3⟩ := HBd.out.four
  go_wp2_with fail
  refine (ref_Play l _ _ _ HL.out).mono ?_
  rintro e waA ⟨vA, uu, rfl, hr, hu, hb⟩
  obtain ⟨bA, oA, cA, AA, dA, rfl, _, _, hcA, hmA⟩ := RdA_open hr (playTo_good l 100).1
  rw [show (playA l).ints.length = 0 by rw [show (playA l).ints = [] from (playTo_good l 100).2]; rfl] at hr ⊢
  have ord0A : w.heap.size ≤ waA.heap.size := Nat.le_trans HBel.out.size hb.size
  have hal := below_alloc waA (.cells #[.slice (some ⟨bA, oA, none⟩) 4 cA, .slice AA 0 dA] 30)
  have hX := boxAt_new waA 30 [.slice (some ⟨bA, oA, none⟩) 4 cA, .slice AA 0 dA]
  have hbb := hb.trans (hal.mono hb.size)
  have hrl := hr.lt.mono (F' := fun k => w.heap.size ≤ k ∧ k < waA.heap.size) fun k hk => by have := HBel.out.size;  omega
  have HRdA := Lib.hid (hrl.grow hal)
  replace HBel := Lib.hid (HBel.out.trans (hbb.mono HBel.out.size))
  replace HBd := Lib.hid (HBd.out.grow hbb)
  replace HDd := Lib.hid (okB.grow HDd.out hbb)
  clear pHBd0 pHBd1 pHBd2 pHBd3
  obtain ⟨wA, hwA⟩ : ∃ x, waA.alloc (.cells #[.slice (some ⟨bA, oA, none⟩) 4 cA, .slice AA 0 dA] 30) = x := ⟨_, rfl⟩
  change BoxAt (waA.alloc (.cells #[.slice (some ⟨bA, oA, none⟩) 4 cA, .slice AA 0 dA] 30)) _ _ _ at hX
  rw [hwA] at hX HRdA HBel   HBd HDd
  have HBxA := Lib.hid hX
  clear hal hX hbb hr hb hrl
  obtain ⟨pA0, pA1, pA2, pA3⟩ := HBxA.out.two
  obtain ⟨pHBd0, pHBd1, pHBd2, pHBd3⟩ := HBd.out.four
  go_wp2_with fail
  clear hwA
  obtain ⟨hsh, hno⟩ := playTo_good l 100
  change Shape (playA l).disks at hsh
  change (playA l).ints = [] at hno
  generalize playA l = a at *
  have HSN := Lib.hid (And.intro hsh hno)
  have HSX := Lib.hid (And.intro (doA_shape hsh d) (do_ints hno d))
  have HO := Lib.hid (@stripe_do a hsh d)
  have HE := Lib.hid (show (doA a d).2 ≠ 0 → (doA a d).1 = a from fun h => by
    by_cases hp : (planA a.disks d).2 = 0
    · rw [doA_okA hp] at h; exact absurd rfl h
    · rw [doA_bad hp])
  clear hsh hno
  refine (array_Do a d _ _ _ _ HRdA.out ⟨_, rfl, HDd.out⟩ HSN.out.1 (.inl HSN.out.2)).mono ?_
  rintro e waX ⟨vX, rfl, hr, hb⟩
  obtain ⟨bX, oX, cX, AX, dX, rfl, _, _, hcX, hmX⟩ := RdA_open hr HSX.out.1
  rw [show (doA a d).1.ints.length = 0 by rw [HSX.out.2]; rfl] at hr ⊢
  have ord0X : w.heap.size ≤ waX.heap.size := Nat.le_trans HBel.out.size hb.size
  have ordAX : waA.heap.size < waX.heap.size := Nat.lt_of_lt_of_le HBxA.out.lt hb.size
  have hal := below_alloc waX (.cells #[.slice (some ⟨bX, oX, none⟩) 4 cX, .slice AX 0 dX] 30)
  have hX := boxAt_new waX 30 [.slice (some ⟨bX, oX, none⟩) 4 cX, .slice AX 0 dX]
  have hbb := hb.trans (hal.mono hb.size)
  have hrl := hr.lt.mono (F' := fun k => waA.heap.size < k ∧ k < waX.heap.size) fun k hk => by have := HBel.out.size; have := HBxA.out.lt; omega
  have HRdX := Lib.hid (hrl.grow hal)
  replace HBxA := Lib.hid (HBxA.out.grow hbb)
  replace HRdA := Lib.hid (HRdA.out.grow hbb)
  replace HBel := Lib.hid (HBel.out.trans (hbb.mono HBel.out.size))
  replace HBd := Lib.hid (HBd.out.grow hbb)
  replace HDd := Lib.hid (okB.grow HDd.out hbb)
  clear pA0 pA1 pA2 pA3 pHBd0 pHBd1 pHBd2 pHBd3
  obtain ⟨wX, hwX⟩ : ∃ x, waX.alloc (.cells #[.slice (some ⟨bX, oX, none⟩) 4 cX, .slice AX 0 dX] 30) = x := ⟨_, rfl⟩
  change BoxAt (waX.alloc (.cells #[.slice (some ⟨bX, oX, none⟩) 4 cX, .slice AX 0 dX] 30)) _ _ _ at hX
  rw [hwX] at hX HRdX HBel HBxA HRdA HBd HDd
  have HBxX := Lib.hid hX
  clear hal hX hbb hr hb hrl
  obtain ⟨pA0, pA1, pA2, pA3⟩ := HBxA.out.two
  obtain ⟨pX0, pX1, pX2, pX3⟩ := HBxX.out.two
  obtain ⟨pHBd0, pHBd1, pHBd2, pHBd3⟩ := HBd.out.four
  generalize (doA a d).1 = x at *
  generalize (doA a d).2 = er at *
  by_cases he : er = 0
  rotate_left
  · have hne : (er != 0) = true := by simpa using he
    have hxa := HE.out he
    subst hxa
    clear he
    go_wp2_with fail
    clear hwX
    refine (ref_Same _ _ _ _ _ _ _ HRdX.out HRdA.out HSX.out.1 HSX.out.1 HSX.out.2 HSX.out.2).mono ?_
    rintro e wq1 ⟨rfl, hb⟩
    rw [beq_self_eq_true]
    replace HBxA := Lib.hid (HBxA.out.grow hb)
    replace HBxX := Lib.hid (HBxX.out.grow hb)
    replace HRdA := Lib.hid (HRdA.out.grow hb)
    replace HRdX := Lib.hid (HRdX.out.grow hb)
    replace HBel := Lib.hid (HBel.out.trans (hb.mono HBel.out.size))
    replace HBd := Lib.hid (HBd.out.grow hb)
    replace HDd := Lib.hid (okB.grow HDd.out hb)
    clear pA0 pA1 pA2 pA3 pX0 pX1 pX2 pX3 pHBd0 pHBd1 pHBd2 pHBd3
    clear hb
    obtain ⟨pA0, pA1, pA2, pA3⟩ := HBxA.out.two
    obtain ⟨pX0, pX1, pX2, pX3⟩ := HBxX.out.two
    obtain ⟨pHBd0, pHBd1, pHBd2, pHBd3⟩ := HBd.out.four
    go_wp2
    go_ret
    exact ⟨rfl, HBel.out⟩
  subst he
  obtain ⟨hr, hoth, P, hP1, hP2, hP3, hP4, hP5⟩ := HO.out rfl
  obtain ⟨n, s, hn, hnt, hs3, hq, hq2, hq3⟩ := deed_n hr
  rw [hnt] at hoth hP1 hP5
  rw [hn] at HBd
  have HQ := Lib.hid (And.intro hq (And.intro hq2 hq3))
  clear hq hq2 hq3
  have HOT := Lib.hid hoth
  have HP1 := Lib.hid hP1
  have HP2 := Lib.hid hP2
  have HP3 := Lib.hid hP3
  have HP4 := Lib.hid hP4
  have HP5 := Lib.hid hP5
  clear hoth hP1 hP2 hP3 hP4 hP5 hr HO HE hnt
  clear pA0 pA1 pA2 pA3 pX0 pX1 pX2 pX3 pHBd0 pHBd1 pHBd2 pHBd3
  obtain ⟨pA0, pA1, pA2, pA3⟩ := HBxA.out.two
  obtain ⟨pX0, pX1, pX2, pX3⟩ := HBxX.out.two
  obtain ⟨pHBd0, pHBd1, pHBd2, pHBd3⟩ := HBd.out.four
  go_wp2_with fail
  clear hwX
  clear pA0 pA1 pA2 pA3 pX0 pX1 pX2 pX3 pHBd0 pHBd1 pHBd2 pHBd3
  go_loopw [31] (fun i wr => ∃ k : Nat, k ≤ 3 ∧ i = .int .i64 k ∧ Below wX.heap.size wX wr) (fun i _ => 3 - (intOf i).toNat)
  case atStart => exact ⟨0, Nat.zero_le _, rfl, Below.refl _ _⟩
  case round =>
    obtain ⟨k, hk, rfl, hlw⟩ := hrel
    have HLW := Lib.hid hlw
    by_cases hlt : k < 3
    · have hbk : decide ((k : Int) < 3) = true := by simp; omega
      obtain ⟨x0, x1, x2, x3⟩ := (HBxX.out.grow hlw).two
      clear hlw
      go_wp2_with fail
      refine (ref_Cells x k _ _ _ (HRdX.out.grow HLW.out) HSX.out.1 hlt).mono ?_
      rintro e wc ⟨vc, rfl, hvc, hb⟩
      have hrc := hvc.toRd_ okB
      replace HLW := Lib.hid (HLW.out.trans (hb.mono HLW.out.size))
      clear x0 x1 x2 x3 hb hvc
      have hcl : (cellsA x.disks k).length = 4 := by rw [cellsA_len, HSX.out.1.1]
      obtain ⟨Ac, cc, rfl, _, _⟩ := hrc.shape
      rw [hcl] at hrc ⊢
      have HRC := Lib.hid hrc
      clear hrc hcl
      obtain ⟨pd0, pd1, pd2, pd3⟩ := (HBd.out.grow HLW.out).four
      obtain ⟨x0, x1, x2, x3⟩ := (HBxA.out.grow HLW.out).two
      obtain ⟨hq, hq2, hq3⟩ := HQ.out
      by_cases hks : k = s
      · subst hks
        have q0 : ((k : Int) != (k : Int)) = false := by simp
        go_wp2_with fail
        clear pd0 pd1 pd2 pd3 x0 x1 x2 x3
        refine (ref_Data (cellsA x.disks k) k _ _ _ HRC.out (by rw [cellsA_len, HSX.out.1.1]; decide)).mono ?_
        rintro e wd ⟨vd, rfl, hvd, hb⟩
        have hrd := hvd.toRd_ okB
        rw [HP1.out] at hrd ⊢
        replace HRC := Lib.hid (okBB.grow HRC.out hb)
        replace HLW := Lib.hid (HLW.out.trans (hb.mono HLW.out.size))
        obtain ⟨AD, cD, rfl, _, _⟩ := hrd.shape
        rw [HP2.out] at hrd ⊢
        have HRD := Lib.hid hrd
        clear hvd hb hrd
        go_wp2_with fail
        refine region_list [Cv (.int .i64 0), Cv (.bool false), Cv (.bool false), Cv (.slice Ac 4 cc), Cv (.int .i64 k), Rv (RdL RI) (ints []), Cv (.int .i64 0), Cv (.bool false), Cv (.bool false), Cv (.bool false), Cv (.slice AD 4 cD), Rv RdB zero4, Cv (.string (strB zero4)), Rv RdB zero4, Cv (.string (strB zero4)), Cv (.bool false), Cv (.bool false)] (by kernel_rfl) (by kernel_rfl) (by kernel_rfl) ?_ ?_ ?_
        · repeat (first | exact trivial | refine ⟨mC _, ?_⟩ | refine ⟨mR okB _, ?_⟩ | refine ⟨mT, ?_⟩ | refine ⟨mR okBB _, ?_⟩ | refine ⟨mR okBBB _, ?_⟩ | refine ⟨mR (okL okI) _, ?_⟩ | refine ⟨mKt _, ?_⟩ | refine ⟨mRa _ _, ?_⟩)
        · simp only [StepsL]
          refine ⟨?_, ?_, ?_, ?_, ?_, ?_, ?_, ?_, ?_, ?_, ?_, ?_, ?_, ?_, ?_, ?_, ?_, trivial⟩
          · intro ys wx hw hd K hK
            simp only [putL, Act.put, List.setIfInBounds_toArray, List.set_cons_zero, List.set_cons_succ, Nat.zero_add, Nat.reduceAdd] at hK ⊢
            rw [if_pos (by rfl)]
            go_simp
            exact hK _ _ (Below.refl _ _) rfl
          · intro ys wx hw hd K hK
            have e0 : ys 0 = _ := hd 0 (by decide)
            simp only [putL, Act.put, List.setIfInBounds_toArray, List.set_cons_zero, List.set_cons_succ, Nat.zero_add, Nat.reduceAdd, e0] at hK ⊢
            rw [if_pos (by rfl)]
            go_simp
            exact hK _ _ (Below.refl _ _) rfl
          · intro ys wx hw hd K hK
            have e1 : ys 1 = _ := hd 1 (by decide)
            simp only [putL, Act.put, List.setIfInBounds_toArray, List.set_cons_zero, List.set_cons_succ, Nat.zero_add, Nat.reduceAdd, e1] at hK ⊢
            rw [if_pos (by rfl)]
            go_simp
            exact hK _ _ (Below.refl _ _) rfl
          · intro ys wx hw hd K hK
            have e2 : ys 2 = _ := hd 2 (by decide)
            simp only [putL, Act.put, List.setIfInBounds_toArray, List.set_cons_zero, List.set_cons_succ, Nat.zero_add, Nat.reduceAdd, e2] at hK ⊢
            rw [if_pos (by rfl)]
            go_simp
            exact hK _ _ (Below.refl _ _) rfl
          · intro ys wx hw hd K hK
            have e2 : ys 2 = _ := hd 2 (by decide)
            simp only [putL, Act.put, List.setIfInBounds_toArray, List.set_cons_zero, List.set_cons_succ, Nat.zero_add, Nat.reduceAdd, e2] at hK ⊢
            rw [if_pos (by rfl)]
            go_simp
            exact hK _ _ (Below.refl _ _) rfl
          · intro ys wx hw hd K hK
            have e2 : ys 2 = _ := hd 2 (by decide)
            have e3 : ys 3 = _ := hd 3 (by decide)
            have e4 : ys 4 = _ := hd 4 (by decide)
            simp only [putL, Act.put, List.setIfInBounds_toArray, List.set_cons_zero, List.set_cons_succ, Nat.zero_add, Nat.reduceAdd, e2, e3, e4] at hK ⊢
            rw [if_pos (by rfl)]
            go_simp
            refine (ref_Bad (cellsA x.disks k) k _ _ _ (okBB.grow HRC.out hw) (by rw [cellsA_len, HSX.out.1.1]; decide)).mono ?_
            rintro e w' ⟨v', rfl, hv', hb'⟩
            rw [HP5.out] at hv'
            exact hK _ _ hb' (hv'.toRd_ okI)
          · intro ys wx hw hd K hK
            have e2 : ys 2 = _ := hd 2 (by decide)
            have k5 := hd 5 (by decide)
            change (Rv (RdL RI) (ints [])) wx (ys 5) at k5
            simp only [putL, Act.put, List.setIfInBounds_toArray, List.set_cons_zero, List.set_cons_succ, Nat.zero_add, Nat.reduceAdd, e2] at hK ⊢
            rw [if_pos (by rfl)]
            obtain ⟨A5, c5, hy, _, _⟩ := k5.shape
            rw [show (ints []).length = 0 from rfl] at hy
            simp only [hy] at hK ⊢
            go_simp
            exact hK _ _ (Below.refl _ _) rfl
          · intro ys wx hw hd K hK
            have e2 : ys 2 = _ := hd 2 (by decide)
            have e6 : ys 6 = _ := hd 6 (by decide)
            simp only [putL, Act.put, List.setIfInBounds_toArray, List.set_cons_zero, List.set_cons_succ, Nat.zero_add, Nat.reduceAdd, e2, e6] at hK ⊢
            rw [if_pos (by rfl)]
            go_simp
            exact hK _ _ (Below.refl _ _) rfl
          · intro ys wx hw hd K hK
            have e2 : ys 2 = _ := hd 2 (by decide)
            have e7 : ys 7 = _ := hd 7 (by decide)
            simp only [putL, Act.put, List.setIfInBounds_toArray, List.set_cons_zero, List.set_cons_succ, Nat.zero_add, Nat.reduceAdd, e2, e7] at hK ⊢
            rw [if_pos (by rfl)]
            go_simp
            exact hK _ _ (Below.refl _ _) rfl
          · intro ys wx hw hd K hK
            have e8 : ys 8 = _ := hd 8 (by decide)
            simp only [putL, Act.put, List.setIfInBounds_toArray, List.set_cons_zero, List.set_cons_succ, Nat.zero_add, Nat.reduceAdd, e8] at hK ⊢
            rw [if_pos (by rfl)]
            go_simp
            exact hK _ _ (Below.refl _ _) rfl
          · intro ys wx hw hd K hK
            have e9 : ys 9 = _ := hd 9 (by decide)
            simp only [putL, Act.put, List.setIfInBounds_toArray, List.set_cons_zero, List.set_cons_succ, Nat.zero_add, Nat.reduceAdd, e9] at hK ⊢
            rw [if_pos (by rfl)]
            go_simp
            exact hK _ _ (Below.refl _ _) rfl
          · intro ys wx hw hd K hK
            have e9 : ys 9 = _ := hd 9 (by decide)
            have e10 : ys 10 = _ := hd 10 (by decide)
            simp only [putL, Act.put, List.setIfInBounds_toArray, List.set_cons_zero, List.set_cons_succ, Nat.zero_add, Nat.reduceAdd, e9, e10] at hK ⊢
            rw [if_pos (by rfl)]
            go_simp
            refine (ref_Xor P _ _ _ (okBB.grow HRD.out hw) HP3.out).mono ?_
            rintro e w' ⟨v', rfl, hv', hb'⟩
            rw [HP4.out] at hv'
            exact hK _ _ hb' (hv'.toRd_ ok8)
          · intro ys wx hw hd K hK
            have e9 : ys 9 = _ := hd 9 (by decide)
            have k11 := hd 11 (by decide)
            change (Rv RdB zero4) wx (ys 11) at k11
            simp only [putL, Act.put, List.setIfInBounds_toArray, List.set_cons_zero, List.set_cons_succ, Nat.zero_add, Nat.reduceAdd, e9] at hK ⊢
            rw [if_pos (by rfl)]
            have hc := run_conv k11 Try.underlying23 Try.underlying5 Try.underlying9
            go_simp
            exact hK _ _ (Below.refl _ _) rfl
          · intro ys wx hw hd K hK
            have e9 : ys 9 = _ := hd 9 (by decide)
            simp only [putL, Act.put, List.setIfInBounds_toArray, List.set_cons_zero, List.set_cons_succ, Nat.zero_add, Nat.reduceAdd, e9] at hK ⊢
            rw [if_pos (by rfl)]
            have hmk := mk4 wx
            go_simp
            exact hK _ _ (below_alloc _ _) (okB.mono (okB.lt (rd_const wx zero4 5 (0, 0) (by decide))) fun _ hk => hk.2)
          · intro ys wx hw hd K hK
            have e9 : ys 9 = _ := hd 9 (by decide)
            have k13 := hd 13 (by decide)
            change (Rv RdB zero4) wx (ys 13) at k13
            simp only [putL, Act.put, List.setIfInBounds_toArray, List.set_cons_zero, List.set_cons_succ, Nat.zero_add, Nat.reduceAdd, e9] at hK ⊢
            rw [if_pos (by rfl)]
            have hc := run_conv k13 Try.underlying23 Try.underlying5 Try.underlying9
            go_simp
            exact hK _ _ (Below.refl _ _) rfl
          · intro ys wx hw hd K hK
            have e9 : ys 9 = _ := hd 9 (by decide)
            have e12 : ys 12 = _ := hd 12 (by decide)
            have e14 : ys 14 = _ := hd 14 (by decide)
            simp only [putL, Act.put, List.setIfInBounds_toArray, List.set_cons_zero, List.set_cons_succ, Nat.zero_add, Nat.reduceAdd, e9, e12, e14] at hK ⊢
            rw [if_pos (by rfl)]
            go_simp
            exact hK _ _ (Below.refl _ _) rfl
          · intro ys wx hw hd K hK
            have e9 : ys 9 = _ := hd 9 (by decide)
            have e15 : ys 15 = _ := hd 15 (by decide)
            simp only [putL, Act.put, List.setIfInBounds_toArray, List.set_cons_zero, List.set_cons_succ, Nat.zero_add, Nat.reduceAdd, e9, e15] at hK ⊢
            rw [if_pos (by rfl)]
            go_simp
            exact hK _ _ (Below.refl _ _) rfl
        · intro ys w' hl' hV
          have e16 : ys 16 = _ := hV 16 (by decide)
          clear hV
          simp only [putL, Act.put, List.setIfInBounds_toArray, List.set_cons_zero, List.set_cons_succ, Nat.zero_add, Nat.reduceAdd, e16]
          clear e16
          have hbx := HLW.out.trans (hl'.mono HLW.out.size)
          clear hl'
          go_wp2
          go_roundw
          case rel => exact ⟨k + 1, hlt, by first | exact up3 hlt | go_num, hbx⟩
          case measure => first | exact meas3 hlt | exact meas3' hlt | exact meas3'' hlt
      · have q0 : ((k : Int) != (s : Int)) = true := ne_nat hks
        have HK := Lib.hid (HOT.out k hks)
        go_wp2_with fail
        refine (ref_Cells a k _ _ _ (HRdA.out.grow HLW.out) HSN.out.1 hlt).mono ?_
        rintro e wd ⟨vd, rfl, hvd, hb⟩
        have hrd := hvd.toRd_ okB
        rw [← HK.out] at hrd
        replace HRC := Lib.hid (okBB.grow HRC.out hb)
        replace HLW := Lib.hid (HLW.out.trans (hb.mono HLW.out.size))
        obtain ⟨AD, cD, rfl, _, _⟩ := hrd.shape
        rw [show (cellsA x.disks k).length = 4 by rw [cellsA_len, HSX.out.1.1]] at hrd ⊢
        have HRD := Lib.hid hrd
        clear hvd hb hrd pd0 pd1 pd2 pd3 x0 x1 x2 x3
        go_wp2_with fail
        refine (ref_SameBytes _ _ _ _ _ _ (okBB.mono HRC.out (F' := fun _ => True) fun _ _ => trivial) (okBB.mono HRD.out (F' := fun _ => True) fun _ _ => trivial)).mono ?_
        rintro e wf ⟨rfl, hb⟩
        rw [beq_self_eq_true]
        have hbx := HLW.out.trans (hb.mono HLW.out.size)
        clear hb
        go_wp2
        go_roundw
        case rel => exact ⟨k + 1, hlt, by first | exact up3 hlt | go_num, hbx⟩
        case measure => first | exact meas3 hlt | exact meas3' hlt | exact meas3'' hlt
    · obtain rfl : k = 3 := by omega
      have hbe := HBel.out.trans (HLW.out.mono HBel.out.size)
      clear hlw
      go_wp2
      go_ret
      exact ⟨rfl, hbe⟩
namespace arrayStripeDone
open Go.ChangeShapes Go.WideShapes Go.ChangeAt Go.RowKit M
open Go.ChangeMaps (open_string shut_string)
set_option linter.unusedVariables false
set_option maxRecDepth 100000 in
theorem lifted (os : Os) (started : os.Started) (H : Type) (enc : TypeId × Value → H) :
    ReturnsInHanded {} Try.checked os 5 .any (Rows.arrayStripeSpec.pre6 enc Try.prog Try.f5 Rows.arrayStripeRow.domain false) (Rows.arrayStripeSpec.post enc Try.prog Try.f5 false true false false) := by
  refine returnsInHanded_of_change (C := Try.checked) own started (by kernel_rfl) Try.func5
    (ChangeSpec.witness6 (enc := enc) (C := Try.checked) false ⟨#[], #[.slice none 0 0, .agg #[.int .i64 0, .int .i64 0, .int .i64 0, .slice none 0 0]], []⟩ 8 (by kernel_rfl) (by kernel_rfl) (by kernel_rfl) (by kernel_rfl)) ?_
  intro W base args ds gs before hval0 hW hcnd _
  have hval : ∀ (j : Nat) t v, Try.f5.params[j]? = some t → args[j]? = some v → Value.okWide Try.prog W .any base t v := hval0
  have hW' := hW
  obtain ⟨p, q, hA0, hV, rfl, hfz, hnd⟩ := hW
  have hA : DataW.TrodAll enc Try.prog W 0 (fun _ => true) true Try.f5.params.toList args.toList ds p := hA0
  rw [Try.params5] at hA hval
  obtain ⟨v0, vs0, d0, ds0, p0, q0, hargs, rfl, rfl, h0, r0⟩ := trodAll_cons hA
  obtain ⟨v1, vs1, d1, ds1, p1, q1, rfl, rfl, rfl, h1, r1⟩ := trodAll_cons r0
  obtain ⟨rfl, rfl, rfl⟩ := trodAll_nil r1
  obtain rfl : args = #[v0, v1] := by cases args; simp_all
  obtain ⟨rfl, rfl⟩ := trodVars_none hV
  obtain ⟨a0, len0, cap0, rfl⟩ := okWide_slice Try.underlying22 (hval 0 22 v0 rfl rfl)
  have k0 := h0
  have lt0 : ∀ x ∈ p0, x.block < W.heap.size := by obtain ⟨m, hm⟩ := k0; exact DataW.trod_lt m _ _ _ hm
  obtain ⟨fuel0, hf0⟩ := h0
  obtain ⟨b0, w0, l0⟩ := open_steps hf0
  obtain ⟨b1, w1⟩ := open_deed (hval 1 25 v1 rfl rfl) h1
  have k1 := h1
  have lt1 : ∀ x ∈ p1, x.block < W.heap.size := by obtain ⟨m, hm⟩ := k1; exact DataW.trod_lt m _ _ _ hm
  clear hA0 hval0
  refine (arrayStripe_walk b0 _ b1 _ W w0 w1).mono fun e W' ⟨he, bel⟩ => ?_
  subst he
  exact ⟨_, rfl, _, _, _, [], _, [], hW', trodAll_mk1 (shut_bool Try.underlying4 _), (trodAll_cons_mk (Below.trod laidOut (by kernel_rfl) (of_decide_eq_true (by kernel_rfl)) k0 bel lt0) (trodAll_cons_mk (Below.trod laidOut (by kernel_rfl) (of_decide_eq_true (by kernel_rfl)) k1 bel lt1) trodAll_mk0)), rfl, bel.frame _, fun h => by cases h⟩
theorem over : Rows.arrayStripeRow.holds Try.pinned (OpenSpec.ofChange Rows.arrayStripeSpec) :=
  OpenClaim.holds_of_wide 5 Try.f5 rfl rfl rfl rfl rfl rfl rfl ⟨rfl, rfl, rfl, rfl, rfl⟩ rfl rfl rfl rfl rfl (by kernel_rfl) Try.func5 (by kernel_rfl)
    (of_decide_eq_true (by kernel_rfl)) (by unfold Func.isWrapper; first | (rw [if_pos (by decide +kernel)]; kernel_rfl) | (rw [if_neg (by decide +kernel)]; exact ⟨rfl, rfl⟩))
    (fun os started H enc _ => lifted os started H enc)
/-- The statement. -/
theorem proved : Rows.ArrayStripeSaid := over
end arrayStripeDone
end Go.Proofs.Ytoendmbgfbhidaa

/- Chapter 11: PlaySafe holds for every input: the call returns true, and each argument reads behind it as it read before. -/
import Derived.Test.YtoendmbgfbhidaaL11
import Derived.Test.YtoendmbgfbhidaaOpenV
import Derived.Test.YtoendmbgfbhidaaZg
namespace Go.Proofs.Ytoendmbgfbhidaa
set_option linter.unusedVariables false
open Go Go.RowKit M
theorem safe_read {a : Arr} {Q : Nat → List Bs} (h : M.Good a Q) (hc : M.Calm a) {n : Nat} (hn : n < 9) {data : Bs} (hb : (blocksQ Q).getD n [] = data) : readA a.disks (n : Nat) = (data, 0) := by
  rw [good_read h hn (hc _ (by omega)), ← blocksQ_get Q hn, hb]
theorem safe_write {a : Arr} {Q : Nat → List Bs} (h : M.Good a Q) (hc : M.Calm a) {n : Nat} (hn : n < 9) {data : Bs} (hd : data.length = 4) :
    (stepP a ⟨1, 0, 0, ⟨1, n, 0, data⟩⟩).2 = 0 ∧ ∃ Q', M.Good (stepP a ⟨1, 0, 0, ⟨1, n, 0, data⟩⟩).1 Q' ∧ M.Calm (stepP a ⟨1, 0, 0, ⟨1, n, 0, data⟩⟩).1 ∧ (blocksQ Q').getD n [] = data := by
  have hr : wrongI ⟨1, n, 0, data⟩ = 0 := by
    unfold wrongI
    rw [if_pos rfl, if_neg (by simp; omega), if_neg (by simp [hd])]
  have e : stepP a ⟨1, 0, 0, ⟨1, n, 0, data⟩⟩ = doA a ⟨1, n, 0, data⟩ := by unfold stepP stepK; rw [if_pos rfl]
  obtain ⟨g1, g2, g3⟩ := doA_good h hc hr
  rw [e]
  refine ⟨g1, _, g2, g3, ?_⟩
  rw [doQ_blocks hr fun s hs => (h.has s hs).dlen, doD_get _ _ hr (blocksQ_len Q) n hn, if_pos ⟨rfl, rfl⟩]
theorem safe_step {a : Arr} {Q : Nat → List Bs} (h : M.Good a Q) (hc : M.Calm a) {s : Step} (hg : againA a s = false) (hw : ¬ 1 < worstA (stepP a s).1.disks) {n : Nat} (hn : n < 9) (hne : s.kind = 1 ∨ s.kind = 2 → s.deed.n ≠ n ∧ s.deed.m ≠ n) {data : Bs} (hb : (blocksQ Q).getD n [] = data) :
    ∃ Q', M.Good (stepP a s).1 Q' ∧ M.Calm (stepP a s).1 ∧ (blocksQ Q').getD n [] = data := by
  obtain ⟨Q', g1, g2⟩ := good_step (.inl rfl) h hc hg
  refine ⟨Q', g1, calm_iff.1 (by show worstA (stepP a s).1.disks ≤ 1; omega), ?_⟩
  have hdo : ∀ (_ : wrongI s.deed = 0) (_ : s.kind = 1 ∨ s.kind = 2), (doD (blocksQ Q) s.deed).getD n [] = data := fun hr hk => by
    obtain ⟨h1, h2⟩ := hne hk
    rw [doD_get _ _ hr (blocksQ_len Q) n hn, if_neg (fun e => h1 e.2.symm), if_neg (fun e => h1 e.2.symm), if_neg (fun e => h2 e.2.symm), hb]
  unfold listsA at g2
  split at g2
  · rw [List.mem_singleton] at g2; rw [g2]; exact hb
  · rename_i hr
    have hr' : wrongI s.deed = 0 := by simpa using hr
    split at g2
    · rename_i hk
      rw [List.mem_singleton] at g2; rw [g2]; exact hdo hr' (.inl hk)
    · split at g2
      · rename_i hk
        simp only [List.mem_cons, List.not_mem_nil, or_false] at g2
        rcases g2 with g2 | g2 <;> rw [g2]
        · exact hb
        · exact hdo hr' (.inr hk)
      · rw [List.mem_singleton] at g2; rw [g2]; exact hb
theorem wrapk {k m : Nat} (h : m ≤ 60 ∧ k < m) : wrap64 ((k : Int) + 1) = ((k + 1 : Nat) : Int) := by
  unfold wrap64
  omega
theorem upk {k m : Nat} (h : m ≤ 60 ∧ k < m) : Value.int .i64 (wrap64 ((k : Int) + 1)) = .int .i64 ((k + 1 : Nat) : Int) := by rw [wrapk h]
theorem meask {k m : Nat} (h : m ≤ 60 ∧ k < m) : m - (intOf (.int .i64 ((k + 1 : Nat) : Int))).toNat < m - (intOf (.int .i64 (k : Int))).toNat := by
  simp [intOf]
  omega
theorem meask' {k m : Nat} (h : m ≤ 60 ∧ k < m) : m - (intOf (.int .i64 ((k : Int) + 1))).toNat < m - (intOf (.int .i64 (k : Int))).toNat := by
  simp [intOf]
  omega
theorem meask'' {k m : Nat} (h : m ≤ 60 ∧ k < m) : m - (intOf (.int .i64 (wrap64 ((k : Int) + 1)))).toNat < m - (intOf (.int .i64 (k : Int))).toNat := by rw [wrapk h]; exact meask h
set_option maxRecDepth 100000 in
set_option maxHeartbeats 6400000 in
theorem playSafe_walk (l : List Step) (vl : Value) (n0 : Int) (data : Bs) (vd : Value) (more : List Step) (vm : Value) (w : World) (hl : RdSts w (fun _ => True) vl l) (_ : -9223372036854775808 ≤ n0) (_ : n0 ≤ 9223372036854775807) (hd : RdB w (fun _ => True) vd data) (hm : RdSts w (fun _ => True) vm more ∧ Lo more) :
    Calls Try.prog 9 #[vl, .int .i64 n0, vd, vm] w fun e w' => e = .returned (.bool true) ∧ Below w.heap.size w w' := by
  obtain ⟨Ast, cst, rfl, _, _⟩ := id hl
  obtain ⟨Am, cm, rfl, hcm1, hcm2, _⟩ := id hm.1
  obtain ⟨Av, cv, rfl, hcv1, hcv2⟩ := hd.shape
  unfold maxLen at hcm2 hcv2
  have HL0 := Lib.hid hl
  have HD0 := Lib.hid (okB.lt hd)
  have HM0 := Lib.hid hm.1.lt
  have HLO := Lib.hid hm.2
  have HBel := Lib.hid (Below.refl w.heap.size w)
  clear hl hd hm
  go_enter Try.func9, Try.ntmps9
  go_wp2_with fail
  refine (law11_alive _).mono ?_
  rintro e w0 ⟨rfl, hb⟩
  replace HBel := Lib.hid (HBel.out.trans (hb.mono HBel.out.size))
  have HL := Lib.hid (HL0.out.below hb fun _ _ hk => hk)
  clear hb HL0
  by_cases hn0 : n0 < 0
  · have d0 : decide (n0 < 0) = true := by simpa using hn0
    go_wp2
    go_ret
    exact ⟨rfl, HBel.out⟩
  have d0 : decide (n0 < 0) = false := by simpa using hn0
  by_cases hn9 : 9 ≤ n0
  · have d9 : decide (9 ≤ n0) = true := by simpa using hn9
    go_wp2
    go_ret
    exact ⟨rfl, HBel.out⟩
  have d9 : decide (9 ≤ n0) = false := by simpa using hn9
  by_cases h4 : data.length = 4
  rotate_left
  · have d4 : ((data.length : Int) != 4) = true := by rw [bne_iff_ne]; omega
    go_wp2
    go_ret
    exact ⟨rfl, HBel.out⟩
  by_cases h60 : 60 < more.length
  · have d60 : decide ((60 : Int) < (more.length : Int)) = true := by simp; omega
    rw [h4] at *
    go_wp2
    go_ret
    exact ⟨rfl, HBel.out⟩
  have d60 : decide ((60 : Int) < (more.length : Int)) = false := by simp; omega
  obtain ⟨n, hn⟩ : ∃ n : Nat, n0 = n := ⟨n0.toNat, by omega⟩
  subst hn
  have hn9' : n < 9 := by omega
  have HD4 := Lib.hid h4
  have H60 := Lib.hid (show more.length ≤ 60 by omega)
  have hd0 := HD0.out
  rw [h4] at hd0 hcv1 ⊢
  have HDv := Lib.hid hd0
  clear hd0 HD0 h4 h60 hn0 hn9
  go_wp2_with fail
  clear d0 d9 d60
  obtain ⟨Q, hgd, hcalm⟩ := good_gentlyA l
  refine (ref_PlayGently l _ _ _ HL.out).mono ?_
  rintro e waA ⟨vA, rfl, hr, hb⟩
  obtain ⟨bA, oA, cA, AA, dA, rfl, _, _, hcA, hmA⟩ := RdA_open hr hgd.shape
  rw [show (gentlyA l).ints.length = 0 by rw [hgd.none_]; rfl] at hr ⊢
  have ord0A : w.heap.size ≤ waA.heap.size := Nat.le_trans HBel.out.size hb.size
  have hal := below_alloc waA (.cells #[.slice (some ⟨bA, oA, none⟩) 4 cA, .slice AA 0 dA] 30)
  have hX := boxAt_new waA 30 [.slice (some ⟨bA, oA, none⟩) 4 cA, .slice AA 0 dA]
  have hbb := hb.trans (hal.mono hb.size)
  have hrl := hr.lt.mono (F' := fun k => w.heap.size ≤ k ∧ k < waA.heap.size) fun k hk => by have := HBel.out.size;  omega
  have HRdA := Lib.hid (hrl.grow hal)
  replace HBel := Lib.hid (HBel.out.trans (hbb.mono HBel.out.size))
  obtain ⟨wA, hwA⟩ : ∃ x, waA.alloc (.cells #[.slice (some ⟨bA, oA, none⟩) 4 cA, .slice AA 0 dA] 30) = x := ⟨_, rfl⟩
  change BoxAt (waA.alloc (.cells #[.slice (some ⟨bA, oA, none⟩) 4 cA, .slice AA 0 dA] 30)) _ _ _ at hX
  rw [hwA] at hX HRdA HBel   
  have HBxA := Lib.hid hX
  clear hal hX hbb hr hb hrl
  obtain ⟨pA0, pA1, pA2, pA3⟩ := HBxA.out.two
  go_wp2_with fail
  clear hwA
  generalize gentlyA l = a0 at *
  have HSN := Lib.hid (And.intro hgd.shape hgd.none_)
  obtain ⟨he0, Q1, hg1, hc1, hb1⟩ := safe_write hgd hcalm hn9' HD4.out
  have HS1 := Lib.hid (And.intro hg1.shape hg1.none_)
  clear hgd hcalm
  refine (play_Do a0 ⟨1, 0, 0, ⟨1, n, 0, data⟩⟩ _ _ _ _ HRdA.out (F2 := fun k => k < w.heap.size) ⟨_, rfl, (show (0 : Int) ≤ 9223372036854775807 by decide), okB.mono (okB.below HDv.out HBel.out fun k hk _ => hk.2) fun k hk => hk.2⟩ HSN.out.1 HSN.out.2 (show (-9223372036854775808 : Int) ≤ 0 by decide)).mono ?_
  rintro e z1 ⟨v, rfl, hr, hb⟩
  rw [he0]
  obtain ⟨bz1, oz1, cz1, Az1, dz1, rfl, _, _, hcz1, hmz1⟩ := RdA_open hr HS1.out.1
  rw [show (stepP a0 ⟨1, 0, 0, ⟨1, n, 0, data⟩⟩).1.ints.length = 0 by rw [HS1.out.2]; rfl] at hr ⊢
  have hsA := HBxA.out.lt
  have hrl := hr.lt
  replace HBxA := Lib.hid (HBxA.out.grow hb)
  replace HRdA := Lib.hid (HRdA.out.grow hb)
  replace HBel := Lib.hid (HBel.out.trans (hb.mono HBel.out.size))
  clear pA0 pA1 pA2 pA3
  obtain ⟨q0, q1, q2, q3⟩ := HBxA.out.two
  have g0 : BoxAt (set2 z1 waA.heap.size (.slice (some ⟨bz1, oz1, none⟩) 4 cz1) (.slice Az1 0 dz1)) _ _ _ := HBxA.out.put2
  have rn : RdA (set2 z1 waA.heap.size (.slice (some ⟨bz1, oz1, none⟩) 4 cz1) (.slice Az1 0 dz1)) (fun k => k ≠ waA.heap.size) _ _ := (hrl.mono (F' := fun k => k ≠ waA.heap.size) fun k hk => by omega).set2 (b := waA.heap.size) (fun k hk => by omega)
  have gb := HBel.out.trans (below_set2 (w := z1) (b := waA.heap.size) (v0 := .slice (some ⟨bz1, oz1, none⟩) 4 cz1) (v1 := .slice Az1 0 dz1) (by omega))
  obtain ⟨wz1, hwz1⟩ : ∃ x, set2 z1 waA.heap.size (.slice (some ⟨bz1, oz1, none⟩) 4 cz1) (.slice Az1 0 dz1) = x := ⟨_, rfl⟩
  rw [hwz1] at g0 rn gb
  change (z1.setCell ⟨waA.heap.size, 0, none⟩ (.slice (some ⟨bz1, oz1, none⟩) 4 cz1)).setCell ⟨waA.heap.size, 1, none⟩ (.slice Az1 0 dz1) = wz1 at hwz1
  replace HBxA := Lib.hid g0
  replace HRdA := Lib.hid rn
  replace HBel := Lib.hid gb
  clear hr hrl hb g0 rn gb hsA
  obtain ⟨pA0, pA1, pA2, pA3⟩ := HBxA.out.two
  generalize (stepP a0 ⟨1, 0, 0, ⟨1, n, 0, data⟩⟩).1 = a1 at *
  have HG1 := Lib.hid (And.intro hg1 (And.intro hc1 hb1))
  have hord := ord0A
  clear hg1 hc1 hb1 he0 HSN HS1
  go_wp2_with fail
  clear hwz1 q0 q1 q2 q3
  clear pA0 pA1 pA2 pA3
  go_loopw [50] (fun i wr => ∃ k : Nat, k ≤ more.length ∧ i = .int .i64 k ∧ (∃ (a : Arr) (Qa : Nat → List Bs) (bA : Nat) (oA cA : Nat) (AA : Option Addr) (dA : Nat), M.Good a Qa ∧ M.Calm a ∧ (blocksQ Qa).getD n [] = data ∧ BoxAt wr waA.heap.size 30 [.slice (some ⟨bA, oA, none⟩) 4 cA, .slice AA 0 dA] ∧ RdA wr (fun k => k ≠ waA.heap.size) (.agg #[.slice (some ⟨bA, oA, none⟩) 4 cA, .slice AA 0 dA]) a) ∧ Below w.heap.size w wr) (fun i _ => more.length - (intOf i).toNat)
  case atStart => exact ⟨0, Nat.zero_le _, rfl, ⟨a1, Q1, _, _, _, _, _, HG1.out.1, HG1.out.2.1, HG1.out.2.2, HBxA.out, HRdA.out⟩, HBel.out⟩
  case round =>
    clear HBxA HRdA HBel HG1 HL
    obtain ⟨k, hk, rfl, ⟨a, Qa, bA, oA, cA, AA, dA, hgd, hcm, hbn, hbx, hrd⟩, hlw⟩ := hrel
    have HBxA := Lib.hid hbx
    have HRdA := Lib.hid hrd
    have HBel := Lib.hid hlw
    have HG := Lib.hid (And.intro hgd (And.intro hcm hbn))
    have HSN := Lib.hid (And.intro hgd.shape hgd.none_)
    have HGR := Lib.hid (safe_read hgd hcm hn9' hbn)
    clear hgd hcm hbn hbx hrd hlw
    obtain ⟨pA0, pA1, pA2, pA3⟩ := HBxA.out.two
    by_cases hlt : k < more.length
    rotate_left
    · obtain rfl : k = more.length := by omega
      clear hk hlt
      go_wp2_with fail
      refine (ref_Read a (n : Nat) _ _ _ HRdA.out HSN.out.1).mono ?_
      rintro e wR ⟨vR, rfl, hr, hb⟩
      rw [HGR.out] at hr ⊢
      obtain ⟨AR, cR, rfl, _, _⟩ := hr.shape
      rw [HD4.out] at hr ⊢
      have hbe := HBel.out.trans (hb.mono HBel.out.size)
      have hdv := okB.below HDv.out hbe fun k hk _ => hk.2
      have hc1 := run_conv hr Try.underlying23 Try.underlying5 Try.underlying9
      have hc2 := run_conv hdv Try.underlying23 Try.underlying5 Try.underlying9
      clear hr hb hdv
      go_wp2
      go_ret
      exact ⟨rfl, hbe⟩
    obtain ⟨s, hs⟩ : ∃ s, more[k]? = some s := ⟨_, List.getElem?_eq_getElem hlt⟩
    obtain ⟨_, _, e1, _, _, hl⟩ := HM0.out.below HBel.out fun _ hk _ => hk.2
    injection e1 with e1 e2 e3
    subst e1; subst e3
    obtain ⟨b, off, rfl, hb, hb', g0, g1, g2, g3, g4, g5, hsn, ud, g6, hud⟩ := hl k s hs
    obtain ⟨Ad, cd, rfl, _, _⟩ := hud.shape
    clear hl
    have HSB := Lib.hid (And.intro (HLO.out s (List.mem_of_getElem? hs)) hsn)
    have hal := below_alloc wr (.cells #[.int .i64 s.kind, .int .i64 s.n, .int .i64 s.m, .int .i64 s.deed.kind, .int .i64 s.deed.n, .int .i64 s.deed.m, .slice Ad s.deed.data.length cd] 68)
    have hX := boxAt_new wr 68 [.int .i64 s.kind, .int .i64 s.n, .int .i64 s.m, .int .i64 s.deed.kind, .int .i64 s.deed.n, .int .i64 s.deed.m, .slice Ad s.deed.data.length cd]
    obtain ⟨wx, hwx⟩ : ∃ x, wr.alloc (.cells #[.int .i64 s.kind, .int .i64 s.n, .int .i64 s.m, .int .i64 s.deed.kind, .int .i64 s.deed.n, .int .i64 s.deed.m, .slice Ad s.deed.data.length cd] 68) = x := ⟨_, rfl⟩
    change BoxAt (wr.alloc (.cells #[.int .i64 s.kind, .int .i64 s.n, .int .i64 s.m, .int .i64 s.deed.kind, .int .i64 s.deed.n, .int .i64 s.deed.m, .slice Ad s.deed.data.length cd] 68)) _ _ _ at hX
    rw [hwx] at hal hX
    have hsz := HBel.out.size
    have hdd := okB.mono (okB.grow hud hal) (F' := fun k => k < w.heap.size) fun k hk => hk.2
    have hltw := HBxA.out.lt
    have hH := HBxA.out.grow hal
    have hR := HRdA.out.grow hal
    have hB := HBel.out.trans (hal.mono hsz)
    clear HBxA HRdA HBel pA0 pA1 pA2 pA3
    have HBxA := Lib.hid hH
    have HRdA := Lib.hid hR
    have HBel := Lib.hid hB
    have HBs := Lib.hid hX
    have HDd := Lib.hid hdd
    clear hal hX hdd hud hs hb hb' hH hR hB
    obtain ⟨pA0, pA1, pA2, pA3⟩ := HBxA.out.two
    obtain ⟨pHBs0, pHBs1, pHBs2, pHBs3, pHBs4, pHBs5, pHBs6⟩ := HBs.out.seven
    have hcase : ((s.kind = 1) ∧ (s.deed.n = n)) ∨ ((s.kind = 1) ∧ ¬ (s.deed.n = n) ∧ (s.deed.m = n)) ∨ (¬ (s.kind = 1) ∧ (s.kind = 2) ∧ (s.deed.n = n)) ∨ (¬ (s.kind = 1) ∧ (s.kind = 2) ∧ ¬ (s.deed.n = n) ∧ (s.deed.m = n)) ∨ ((s.kind = 1) ∧ ¬ (s.deed.n = n) ∧ ¬ (s.deed.m = n)) ∨ (¬ (s.kind = 1) ∧ (s.kind = 2) ∧ ¬ (s.deed.n = n) ∧ ¬ (s.deed.m = n)) ∨ (¬ (s.kind = 1) ∧ ¬ (s.kind = 2)) := by
      by_cases c1 : s.kind = 1 <;> by_cases c2 : s.kind = 2 <;> by_cases c3 : s.deed.n = n <;> by_cases c4 : s.deed.m = n <;> simp [*]
    have HK : Hid (more.length ≤ 60 ∧ k < more.length) := Lib.hid ⟨H60.out, hlt⟩
    rcases hcase with ⟨h0, h1⟩ | ⟨h0, h1, h2⟩ | ⟨h0, h1, h2⟩ | ⟨h0, h1, h2, h3⟩ | ⟨h0, h1, h2⟩ | ⟨h0, h1, h2, h3⟩ | ⟨h0, h1⟩
    · skip
      have f0 : (s.kind == 1) = true := by simpa using h0
      have f1 : (s.deed.n == (n : Int)) = true := by simpa using h1
      clear h0 h1
      go_wp2_with fail
      clear hwx g0 g1 g2 g3 g4 g5 g6 f0 f1
      refine (ref_Read a (n : Nat) _ _ _ HRdA.out HSN.out.1).mono ?_
      rintro e wR ⟨vR, rfl, hr, hb⟩
      rw [HGR.out] at hr ⊢
      obtain ⟨AR, cR, rfl, _, _⟩ := hr.shape
      rw [HD4.out] at hr ⊢
      have hbe := HBel.out.trans (hb.mono HBel.out.size)
      have hdv := okB.below HDv.out hbe fun k hk _ => hk.2
      have hc1 := run_conv hr Try.underlying23 Try.underlying5 Try.underlying9
      have hc2 := run_conv hdv Try.underlying23 Try.underlying5 Try.underlying9
      clear hr hb hdv
      go_wp2
      go_ret
      exact ⟨rfl, hbe⟩
    · skip
      have f0 : (s.kind == 1) = true := by simpa using h0
      have f1 : (s.deed.n == (n : Int)) = false := by simpa using h1
      have f2 : (s.deed.m == (n : Int)) = true := by simpa using h2
      clear h0 h1 h2
      go_wp2_with fail
      clear hwx g0 g1 g2 g3 g4 g5 g6 f0 f1 f2
      refine (ref_Read a (n : Nat) _ _ _ HRdA.out HSN.out.1).mono ?_
      rintro e wR ⟨vR, rfl, hr, hb⟩
      rw [HGR.out] at hr ⊢
      obtain ⟨AR, cR, rfl, _, _⟩ := hr.shape
      rw [HD4.out] at hr ⊢
      have hbe := HBel.out.trans (hb.mono HBel.out.size)
      have hdv := okB.below HDv.out hbe fun k hk _ => hk.2
      have hc1 := run_conv hr Try.underlying23 Try.underlying5 Try.underlying9
      have hc2 := run_conv hdv Try.underlying23 Try.underlying5 Try.underlying9
      clear hr hb hdv
      go_wp2
      go_ret
      exact ⟨rfl, hbe⟩
    · skip
      have f0 : (s.kind == 1) = false := by simpa using h0
      have f1 : (s.kind == 2) = true := by simpa using h1
      have f2 : (s.deed.n == (n : Int)) = true := by simpa using h2
      clear h0 h1 h2
      go_wp2_with fail
      clear hwx g0 g1 g2 g3 g4 g5 g6 f0 f1 f2
      refine (ref_Read a (n : Nat) _ _ _ HRdA.out HSN.out.1).mono ?_
      rintro e wR ⟨vR, rfl, hr, hb⟩
      rw [HGR.out] at hr ⊢
      obtain ⟨AR, cR, rfl, _, _⟩ := hr.shape
      rw [HD4.out] at hr ⊢
      have hbe := HBel.out.trans (hb.mono HBel.out.size)
      have hdv := okB.below HDv.out hbe fun k hk _ => hk.2
      have hc1 := run_conv hr Try.underlying23 Try.underlying5 Try.underlying9
      have hc2 := run_conv hdv Try.underlying23 Try.underlying5 Try.underlying9
      clear hr hb hdv
      go_wp2
      go_ret
      exact ⟨rfl, hbe⟩
    · skip
      have f0 : (s.kind == 1) = false := by simpa using h0
      have f1 : (s.kind == 2) = true := by simpa using h1
      have f2 : (s.deed.n == (n : Int)) = false := by simpa using h2
      have f3 : (s.deed.m == (n : Int)) = true := by simpa using h3
      clear h0 h1 h2 h3
      go_wp2_with fail
      clear hwx g0 g1 g2 g3 g4 g5 g6 f0 f1 f2 f3
      refine (ref_Read a (n : Nat) _ _ _ HRdA.out HSN.out.1).mono ?_
      rintro e wR ⟨vR, rfl, hr, hb⟩
      rw [HGR.out] at hr ⊢
      obtain ⟨AR, cR, rfl, _, _⟩ := hr.shape
      rw [HD4.out] at hr ⊢
      have hbe := HBel.out.trans (hb.mono HBel.out.size)
      have hdv := okB.below HDv.out hbe fun k hk _ => hk.2
      have hc1 := run_conv hr Try.underlying23 Try.underlying5 Try.underlying9
      have hc2 := run_conv hdv Try.underlying23 Try.underlying5 Try.underlying9
      clear hr hb hdv
      go_wp2
      go_ret
      exact ⟨rfl, hbe⟩
    · skip
      have f0 : (s.kind == 1) = true := by simpa using h0
      have f1 : (s.deed.n == (n : Int)) = false := by simpa using h1
      have f2 : (s.deed.m == (n : Int)) = false := by simpa using h2
      have HNE := Lib.hid (show s.kind = 1 ∨ s.kind = 2 → s.deed.n ≠ (n : Int) ∧ s.deed.m ≠ (n : Int) from fun h => by omega)
      clear h0 h1 h2
      go_wp2_with fail
      clear hwx g0 g1 g2 g3 g4 g5 g6 f0 f1 f2
      have HSX := Lib.hid (stepP_good HSN.out.1 HSN.out.2 s)
      have HNX := Lib.hid (fun h1 h2 => safe_step HG.out.1 HG.out.2.1 (s := s) h1 h2 hn9' HNE.out HG.out.2.2)
      refine (play_Do a s _ _ _ _ HRdA.out ⟨_, rfl, HSB.out.2, HDd.out⟩ HSN.out.1 HSN.out.2 HSB.out.1).mono ?_
      rintro e waX ⟨vX, rfl, hr, hb⟩
      obtain ⟨bX, oX, cX, AX, dX, rfl, _, _, hcX, hmX⟩ := RdA_open hr HSX.out.1
      rw [show (stepP a s).1.ints.length = 0 by rw [HSX.out.2]; rfl] at hr ⊢
      have ord0X : w.heap.size ≤ waX.heap.size := Nat.le_trans HBel.out.size hb.size
      have ordAX : waA.heap.size < waX.heap.size := Nat.lt_of_lt_of_le HBxA.out.lt hb.size
      have hal := below_alloc waX (.cells #[.slice (some ⟨bX, oX, none⟩) 4 cX, .slice AX 0 dX] 30)
      have hX := boxAt_new waX 30 [.slice (some ⟨bX, oX, none⟩) 4 cX, .slice AX 0 dX]
      have hbb := hb.trans (hal.mono hb.size)
      have hrl := hr.lt.mono (F' := fun k => waA.heap.size < k ∧ k < waX.heap.size) fun k hk => by have := HBel.out.size; have := HBxA.out.lt; omega
      have HRdX := Lib.hid (hrl.grow hal)
      replace HBxA := Lib.hid (HBxA.out.grow hbb)
      replace HRdA := Lib.hid (HRdA.out.grow hbb)
      replace HBel := Lib.hid (HBel.out.trans (hbb.mono HBel.out.size))
      replace HBs := Lib.hid (HBs.out.grow hbb)
      replace HDd := Lib.hid (okB.grow HDd.out hbb)
      clear pA0 pA1 pA2 pA3 pHBs0 pHBs1 pHBs2 pHBs3 pHBs4 pHBs5 pHBs6
      obtain ⟨wX, hwX⟩ : ∃ x, waX.alloc (.cells #[.slice (some ⟨bX, oX, none⟩) 4 cX, .slice AX 0 dX] 30) = x := ⟨_, rfl⟩
      change BoxAt (waX.alloc (.cells #[.slice (some ⟨bX, oX, none⟩) 4 cX, .slice AX 0 dX] 30)) _ _ _ at hX
      rw [hwX] at hX HRdX HBel HBxA HRdA HBs HDd
      have HBxX := Lib.hid hX
      clear hal hX hbb hr hb hrl
      obtain ⟨pA0, pA1, pA2, pA3⟩ := HBxA.out.two
      obtain ⟨pX0, pX1, pX2, pX3⟩ := HBxX.out.two
      obtain ⟨pHBs0, pHBs1, pHBs2, pHBs3, pHBs4, pHBs5, pHBs6⟩ := HBs.out.seven
      generalize (stepP a s).1 = x at *
      generalize (stepP a s).2 = er at *
      go_wp2_with fail
      clear hwX
      refine (ref_Again a s _ _ _ _ HRdA.out ⟨_, rfl, HSB.out.2, HDd.out⟩ HSN.out.1).mono ?_
      rintro e wq2 ⟨rfl, hb⟩
      replace HBxA := Lib.hid (HBxA.out.grow hb)
      replace HBxX := Lib.hid (HBxX.out.grow hb)
      replace HRdA := Lib.hid (HRdA.out.grow hb)
      replace HRdX := Lib.hid (HRdX.out.grow hb)
      replace HBel := Lib.hid (HBel.out.trans (hb.mono HBel.out.size))
      replace HBs := Lib.hid (HBs.out.grow hb)
      replace HDd := Lib.hid (okB.grow HDd.out hb)
      clear pA0 pA1 pA2 pA3 pX0 pX1 pX2 pX3 pHBs0 pHBs1 pHBs2 pHBs3 pHBs4 pHBs5 pHBs6
      clear hb
      obtain ⟨pA0, pA1, pA2, pA3⟩ := HBxA.out.two
      obtain ⟨pX0, pX1, pX2, pX3⟩ := HBxX.out.two
      obtain ⟨pHBs0, pHBs1, pHBs2, pHBs3, pHBs4, pHBs5, pHBs6⟩ := HBs.out.seven
      cases hag : againA a s
      rotate_left
      · clear hag
        go_wp2_with fail
        refine (ref_Read a (n : Nat) _ _ _ HRdA.out HSN.out.1).mono ?_
        rintro e wR ⟨vR, rfl, hr, hb⟩
        rw [HGR.out] at hr ⊢
        obtain ⟨AR, cR, rfl, _, _⟩ := hr.shape
        rw [HD4.out] at hr ⊢
        have hbe := HBel.out.trans (hb.mono HBel.out.size)
        have hdv := okB.below HDv.out hbe fun k hk _ => hk.2
        have hc1 := run_conv hr Try.underlying23 Try.underlying5 Try.underlying9
        have hc2 := run_conv hdv Try.underlying23 Try.underlying5 Try.underlying9
        clear hr hb hdv
        go_wp2
        go_ret
        exact ⟨rfl, hbe⟩
      go_wp2_with fail
      refine (ref_Worst x _ _ _ HRdX.out HSX.out.1).mono ?_
      rintro e wq3 ⟨rfl, hb⟩
      replace HBxA := Lib.hid (HBxA.out.grow hb)
      replace HBxX := Lib.hid (HBxX.out.grow hb)
      replace HRdA := Lib.hid (HRdA.out.grow hb)
      replace HRdX := Lib.hid (HRdX.out.grow hb)
      replace HBel := Lib.hid (HBel.out.trans (hb.mono HBel.out.size))
      replace HBs := Lib.hid (HBs.out.grow hb)
      replace HDd := Lib.hid (okB.grow HDd.out hb)
      clear pA0 pA1 pA2 pA3 pX0 pX1 pX2 pX3 pHBs0 pHBs1 pHBs2 pHBs3 pHBs4 pHBs5 pHBs6
      clear hb
      obtain ⟨pA0, pA1, pA2, pA3⟩ := HBxA.out.two
      obtain ⟨pX0, pX1, pX2, pX3⟩ := HBxX.out.two
      obtain ⟨pHBs0, pHBs1, pHBs2, pHBs3, pHBs4, pHBs5, pHBs6⟩ := HBs.out.seven
      by_cases hwo : 1 < worstA x.disks
      · have dw : decide ((1 : Int) < ((worstA x.disks : Nat) : Int)) = true := by simp; omega
        generalize ((worstA x.disks : Nat) : Int) = ww at *
        clear hwo
        go_wp2_with fail
        refine (ref_Read a (n : Nat) _ _ _ HRdA.out HSN.out.1).mono ?_
        rintro e wR ⟨vR, rfl, hr, hb⟩
        rw [HGR.out] at hr ⊢
        obtain ⟨AR, cR, rfl, _, _⟩ := hr.shape
        rw [HD4.out] at hr ⊢
        have hbe := HBel.out.trans (hb.mono HBel.out.size)
        have hdv := okB.below HDv.out hbe fun k hk _ => hk.2
        have hc1 := run_conv hr Try.underlying23 Try.underlying5 Try.underlying9
        have hc2 := run_conv hdv Try.underlying23 Try.underlying5 Try.underlying9
        clear hr hb hdv
        go_wp2
        go_ret
        exact ⟨rfl, hbe⟩
      have dw : decide ((1 : Int) < ((worstA x.disks : Nat) : Int)) = false := by simp; omega
      obtain ⟨Q', hg', hc', hb'⟩ := HNX.out hag hwo
      generalize ((worstA x.disks : Nat) : Int) = ww at *
      clear hwo hag
      obtain ⟨q0, q1, q2, q3⟩ := HBxA.out.two
      have f1 : BoxAt (set2 wq3 waA.heap.size (.slice (some ⟨bX, oX, none⟩) 4 cX) (.slice AX 0 dX)) _ _ _ := HBxA.out.put2
      have f2 : RdA (set2 wq3 waA.heap.size (.slice (some ⟨bX, oX, none⟩) 4 cX) (.slice AX 0 dX)) _ _ _ := HRdX.out.set2 (b := waA.heap.size) (fun k hk => Nat.ne_of_gt hk.1)
      have f3 := HBel.out.trans (below_set2 (w := wq3) (b := waA.heap.size) (v0 := .slice (some ⟨bX, oX, none⟩) 4 cX) (v1 := .slice AX 0 dX) hord)
      have HF := Lib.hid (And.intro f1 (And.intro (f2.mono (F' := fun k => k ≠ waA.heap.size) fun k hk => Nat.ne_of_gt hk.1) f3))
      have HG' := Lib.hid (And.intro hg' (And.intro hc' hb'))
      clear f1 f2 f3 hg' hc' hb'
      go_wp2
      go_roundw
      case rel => exact ⟨k + 1, HK.out.2, by first | exact upk HK.out | go_num, ⟨x, Q', _, _, _, _, _, HG'.out.1, HG'.out.2.1, HG'.out.2.2, HF.out.1, HF.out.2.1⟩, HF.out.2.2⟩
      case measure => first | exact meask HK.out | exact meask' HK.out | exact meask'' HK.out
    · skip
      have f0 : (s.kind == 1) = false := by simpa using h0
      have f1 : (s.kind == 2) = true := by simpa using h1
      have f2 : (s.deed.n == (n : Int)) = false := by simpa using h2
      have f3 : (s.deed.m == (n : Int)) = false := by simpa using h3
      have HNE := Lib.hid (show s.kind = 1 ∨ s.kind = 2 → s.deed.n ≠ (n : Int) ∧ s.deed.m ≠ (n : Int) from fun h => by omega)
      clear h0 h1 h2 h3
      go_wp2_with fail
      clear hwx g0 g1 g2 g3 g4 g5 g6 f0 f1 f2 f3
      have HSX := Lib.hid (stepP_good HSN.out.1 HSN.out.2 s)
      have HNX := Lib.hid (fun h1 h2 => safe_step HG.out.1 HG.out.2.1 (s := s) h1 h2 hn9' HNE.out HG.out.2.2)
      refine (play_Do a s _ _ _ _ HRdA.out ⟨_, rfl, HSB.out.2, HDd.out⟩ HSN.out.1 HSN.out.2 HSB.out.1).mono ?_
      rintro e waX ⟨vX, rfl, hr, hb⟩
      obtain ⟨bX, oX, cX, AX, dX, rfl, _, _, hcX, hmX⟩ := RdA_open hr HSX.out.1
      rw [show (stepP a s).1.ints.length = 0 by rw [HSX.out.2]; rfl] at hr ⊢
      have ord0X : w.heap.size ≤ waX.heap.size := Nat.le_trans HBel.out.size hb.size
      have ordAX : waA.heap.size < waX.heap.size := Nat.lt_of_lt_of_le HBxA.out.lt hb.size
      have hal := below_alloc waX (.cells #[.slice (some ⟨bX, oX, none⟩) 4 cX, .slice AX 0 dX] 30)
      have hX := boxAt_new waX 30 [.slice (some ⟨bX, oX, none⟩) 4 cX, .slice AX 0 dX]
      have hbb := hb.trans (hal.mono hb.size)
      have hrl := hr.lt.mono (F' := fun k => waA.heap.size < k ∧ k < waX.heap.size) fun k hk => by have := HBel.out.size; have := HBxA.out.lt; omega
      have HRdX := Lib.hid (hrl.grow hal)
      replace HBxA := Lib.hid (HBxA.out.grow hbb)
      replace HRdA := Lib.hid (HRdA.out.grow hbb)
      replace HBel := Lib.hid (HBel.out.trans (hbb.mono HBel.out.size))
      replace HBs := Lib.hid (HBs.out.grow hbb)
      replace HDd := Lib.hid (okB.grow HDd.out hbb)
      clear pA0 pA1 pA2 pA3 pHBs0 pHBs1 pHBs2 pHBs3 pHBs4 pHBs5 pHBs6
      obtain ⟨wX, hwX⟩ : ∃ x, waX.alloc (.cells #[.slice (some ⟨bX, oX, none⟩) 4 cX, .slice AX 0 dX] 30) = x := ⟨_, rfl⟩
      change BoxAt (waX.alloc (.cells #[.slice (some ⟨bX, oX, none⟩) 4 cX, .slice AX 0 dX] 30)) _ _ _ at hX
      rw [hwX] at hX HRdX HBel HBxA HRdA HBs HDd
      have HBxX := Lib.hid hX
      clear hal hX hbb hr hb hrl
      obtain ⟨pA0, pA1, pA2, pA3⟩ := HBxA.out.two
      obtain ⟨pX0, pX1, pX2, pX3⟩ := HBxX.out.two
      obtain ⟨pHBs0, pHBs1, pHBs2, pHBs3, pHBs4, pHBs5, pHBs6⟩ := HBs.out.seven
      generalize (stepP a s).1 = x at *
      generalize (stepP a s).2 = er at *
      go_wp2_with fail
      clear hwX
      refine (ref_Again a s _ _ _ _ HRdA.out ⟨_, rfl, HSB.out.2, HDd.out⟩ HSN.out.1).mono ?_
      rintro e wq2 ⟨rfl, hb⟩
      replace HBxA := Lib.hid (HBxA.out.grow hb)
      replace HBxX := Lib.hid (HBxX.out.grow hb)
      replace HRdA := Lib.hid (HRdA.out.grow hb)
      replace HRdX := Lib.hid (HRdX.out.grow hb)
      replace HBel := Lib.hid (HBel.out.trans (hb.mono HBel.out.size))
      replace HBs := Lib.hid (HBs.out.grow hb)
      replace HDd := Lib.hid (okB.grow HDd.out hb)
      clear pA0 pA1 pA2 pA3 pX0 pX1 pX2 pX3 pHBs0 pHBs1 pHBs2 pHBs3 pHBs4 pHBs5 pHBs6
      clear hb
      obtain ⟨pA0, pA1, pA2, pA3⟩ := HBxA.out.two
      obtain ⟨pX0, pX1, pX2, pX3⟩ := HBxX.out.two
      obtain ⟨pHBs0, pHBs1, pHBs2, pHBs3, pHBs4, pHBs5, pHBs6⟩ := HBs.out.seven
      cases hag : againA a s
      rotate_left
      · clear hag
        go_wp2_with fail
        refine (ref_Read a (n : Nat) _ _ _ HRdA.out HSN.out.1).mono ?_
        rintro e wR ⟨vR, rfl, hr, hb⟩
        rw [HGR.out] at hr ⊢
        obtain ⟨AR, cR, rfl, _, _⟩ := hr.shape
        rw [HD4.out] at hr ⊢
        have hbe := HBel.out.trans (hb.mono HBel.out.size)
        have hdv := okB.below HDv.out hbe fun k hk _ => hk.2
        have hc1 := run_conv hr Try.underlying23 Try.underlying5 Try.underlying9
        have hc2 := run_conv hdv Try.underlying23 Try.underlying5 Try.underlying9
        clear hr hb hdv
        go_wp2
        go_ret
        exact ⟨rfl, hbe⟩
      go_wp2_with fail
      refine (ref_Worst x _ _ _ HRdX.out HSX.out.1).mono ?_
      rintro e wq3 ⟨rfl, hb⟩
      replace HBxA := Lib.hid (HBxA.out.grow hb)
      replace HBxX := Lib.hid (HBxX.out.grow hb)
      replace HRdA := Lib.hid (HRdA.out.grow hb)
      replace HRdX := Lib.hid (HRdX.out.grow hb)
      replace HBel := Lib.hid (HBel.out.trans (hb.mono HBel.out.size))
      replace HBs := Lib.hid (HBs.out.grow hb)
      replace HDd := Lib.hid (okB.grow HDd.out hb)
      clear pA0 pA1 pA2 pA3 pX0 pX1 pX2 pX3 pHBs0 pHBs1 pHBs2 pHBs3 pHBs4 pHBs5 pHBs6
      clear hb
      obtain ⟨pA0, pA1, pA2, pA3⟩ := HBxA.out.two
      obtain ⟨pX0, pX1, pX2, pX3⟩ := HBxX.out.two
      obtain ⟨pHBs0, pHBs1, pHBs2, pHBs3, pHBs4, pHBs5, pHBs6⟩ := HBs.out.seven
      by_cases hwo : 1 < worstA x.disks
      · have dw : decide ((1 : Int) < ((worstA x.disks : Nat) : Int)) = true := by simp; omega
        generalize ((worstA x.disks : Nat) : Int) = ww at *
        clear hwo
        go_wp2_with fail
        refine (ref_Read a (n : Nat) _ _ _ HRdA.out HSN.out.1).mono ?_
        rintro e wR ⟨vR, rfl, hr, hb⟩
        rw [HGR.out] at hr ⊢
        obtain ⟨AR, cR, rfl, _, _⟩ := hr.shape
        rw [HD4.out] at hr ⊢
        have hbe := HBel.out.trans (hb.mono HBel.out.size)
        have hdv := okB.below HDv.out hbe fun k hk _ => hk.2
        have hc1 := run_conv hr Try.underlying23 Try.underlying5 Try.underlying9
        have hc2 := run_conv hdv Try.underlying23 Try.underlying5 Try.underlying9
        clear hr hb hdv
        go_wp2
        go_ret
        exact ⟨rfl, hbe⟩
      have dw : decide ((1 : Int) < ((worstA x.disks : Nat) : Int)) = false := by simp; omega
      obtain ⟨Q', hg', hc', hb'⟩ := HNX.out hag hwo
      generalize ((worstA x.disks : Nat) : Int) = ww at *
      clear hwo hag
      obtain ⟨q0, q1, q2, q3⟩ := HBxA.out.two
      have f1 : BoxAt (set2 wq3 waA.heap.size (.slice (some ⟨bX, oX, none⟩) 4 cX) (.slice AX 0 dX)) _ _ _ := HBxA.out.put2
      have f2 : RdA (set2 wq3 waA.heap.size (.slice (some ⟨bX, oX, none⟩) 4 cX) (.slice AX 0 dX)) _ _ _ := HRdX.out.set2 (b := waA.heap.size) (fun k hk => Nat.ne_of_gt hk.1)
      have f3 := HBel.out.trans (below_set2 (w := wq3) (b := waA.heap.size) (v0 := .slice (some ⟨bX, oX, none⟩) 4 cX) (v1 := .slice AX 0 dX) hord)
      have HF := Lib.hid (And.intro f1 (And.intro (f2.mono (F' := fun k => k ≠ waA.heap.size) fun k hk => Nat.ne_of_gt hk.1) f3))
      have HG' := Lib.hid (And.intro hg' (And.intro hc' hb'))
      clear f1 f2 f3 hg' hc' hb'
      go_wp2
      go_roundw
      case rel => exact ⟨k + 1, HK.out.2, by first | exact upk HK.out | go_num, ⟨x, Q', _, _, _, _, _, HG'.out.1, HG'.out.2.1, HG'.out.2.2, HF.out.1, HF.out.2.1⟩, HF.out.2.2⟩
      case measure => first | exact meask HK.out | exact meask' HK.out | exact meask'' HK.out
    · skip
      have f0 : (s.kind == 1) = false := by simpa using h0
      have f1 : (s.kind == 2) = false := by simpa using h1
      have HNE := Lib.hid (show s.kind = 1 ∨ s.kind = 2 → s.deed.n ≠ (n : Int) ∧ s.deed.m ≠ (n : Int) from fun h => by omega)
      clear h0 h1
      go_wp2_with fail
      clear hwx g0 g1 g2 g3 g4 g5 g6 f0 f1
      have HSX := Lib.hid (stepP_good HSN.out.1 HSN.out.2 s)
      have HNX := Lib.hid (fun h1 h2 => safe_step HG.out.1 HG.out.2.1 (s := s) h1 h2 hn9' HNE.out HG.out.2.2)
      refine (play_Do a s _ _ _ _ HRdA.out ⟨_, rfl, HSB.out.2, HDd.out⟩ HSN.out.1 HSN.out.2 HSB.out.1).mono ?_
      rintro e waX ⟨vX, rfl, hr, hb⟩
      obtain ⟨bX, oX, cX, AX, dX, rfl, _, _, hcX, hmX⟩ := RdA_open hr HSX.out.1
      rw [show (stepP a s).1.ints.length = 0 by rw [HSX.out.2]; rfl] at hr ⊢
      have ord0X : w.heap.size ≤ waX.heap.size := Nat.le_trans HBel.out.size hb.size
      have ordAX : waA.heap.size < waX.heap.size := Nat.lt_of_lt_of_le HBxA.out.lt hb.size
      have hal := below_alloc waX (.cells #[.slice (some ⟨bX, oX, none⟩) 4 cX, .slice AX 0 dX] 30)
      have hX := boxAt_new waX 30 [.slice (some ⟨bX, oX, none⟩) 4 cX, .slice AX 0 dX]
      have hbb := hb.trans (hal.mono hb.size)
      have hrl := hr.lt.mono (F' := fun k => waA.heap.size < k ∧ k < waX.heap.size) fun k hk => by have := HBel.out.size; have := HBxA.out.lt; omega
      have HRdX := Lib.hid (hrl.grow hal)
      replace HBxA := Lib.hid (HBxA.out.grow hbb)
      replace HRdA := Lib.hid (HRdA.out.grow hbb)
      replace HBel := Lib.hid (HBel.out.trans (hbb.mono HBel.out.size))
      replace HBs := Lib.hid (HBs.out.grow hbb)
      replace HDd := Lib.hid (okB.grow HDd.out hbb)
      clear pA0 pA1 pA2 pA3 pHBs0 pHBs1 pHBs2 pHBs3 pHBs4 pHBs5 pHBs6
      obtain ⟨wX, hwX⟩ : ∃ x, waX.alloc (.cells #[.slice (some ⟨bX, oX, none⟩) 4 cX, .slice AX 0 dX] 30) = x := ⟨_, rfl⟩
      change BoxAt (waX.alloc (.cells #[.slice (some ⟨bX, oX, none⟩) 4 cX, .slice AX 0 dX] 30)) _ _ _ at hX
      rw [hwX] at hX HRdX HBel HBxA HRdA HBs HDd
      have HBxX := Lib.hid hX
      clear hal hX hbb hr hb hrl
      obtain ⟨pA0, pA1, pA2, pA3⟩ := HBxA.out.two
      obtain ⟨pX0, pX1, pX2, pX3⟩ := HBxX.out.two
      obtain ⟨pHBs0, pHBs1, pHBs2, pHBs3, pHBs4, pHBs5, pHBs6⟩ := HBs.out.seven
      generalize (stepP a s).1 = x at *
      generalize (stepP a s).2 = er at *
      go_wp2_with fail
      clear hwX
      refine (ref_Again a s _ _ _ _ HRdA.out ⟨_, rfl, HSB.out.2, HDd.out⟩ HSN.out.1).mono ?_
      rintro e wq2 ⟨rfl, hb⟩
      replace HBxA := Lib.hid (HBxA.out.grow hb)
      replace HBxX := Lib.hid (HBxX.out.grow hb)
      replace HRdA := Lib.hid (HRdA.out.grow hb)
      replace HRdX := Lib.hid (HRdX.out.grow hb)
      replace HBel := Lib.hid (HBel.out.trans (hb.mono HBel.out.size))
      replace HBs := Lib.hid (HBs.out.grow hb)
      replace HDd := Lib.hid (okB.grow HDd.out hb)
      clear pA0 pA1 pA2 pA3 pX0 pX1 pX2 pX3 pHBs0 pHBs1 pHBs2 pHBs3 pHBs4 pHBs5 pHBs6
      clear hb
      obtain ⟨pA0, pA1, pA2, pA3⟩ := HBxA.out.two
      obtain ⟨pX0, pX1, pX2, pX3⟩ := HBxX.out.two
      obtain ⟨pHBs0, pHBs1, pHBs2, pHBs3, pHBs4, pHBs5, pHBs6⟩ := HBs.out.seven
      cases hag : againA a s
      rotate_left
      · clear hag
        go_wp2_with fail
        refine (ref_Read a (n : Nat) _ _ _ HRdA.out HSN.out.1).mono ?_
        rintro e wR ⟨vR, rfl, hr, hb⟩
        rw [HGR.out] at hr ⊢
        obtain ⟨AR, cR, rfl, _, _⟩ := hr.shape
        rw [HD4.out] at hr ⊢
        have hbe := HBel.out.trans (hb.mono HBel.out.size)
        have hdv := okB.below HDv.out hbe fun k hk _ => hk.2
        have hc1 := run_conv hr Try.underlying23 Try.underlying5 Try.underlying9
        have hc2 := run_conv hdv Try.underlying23 Try.underlying5 Try.underlying9
        clear hr hb hdv
        go_wp2
        go_ret
        exact ⟨rfl, hbe⟩
      go_wp2_with fail
      refine (ref_Worst x _ _ _ HRdX.out HSX.out.1).mono ?_
      rintro e wq3 ⟨rfl, hb⟩
      replace HBxA := Lib.hid (HBxA.out.grow hb)
      replace HBxX := Lib.hid (HBxX.out.grow hb)
      replace HRdA := Lib.hid (HRdA.out.grow hb)
      replace HRdX := Lib.hid (HRdX.out.grow hb)
      replace HBel := Lib.hid (HBel.out.trans (hb.mono HBel.out.size))
      replace HBs := Lib.hid (HBs.out.grow hb)
      replace HDd := Lib.hid (okB.grow HDd.out hb)
      clear pA0 pA1 pA2 pA3 pX0 pX1 pX2 pX3 pHBs0 pHBs1 pHBs2 pHBs3 pHBs4 pHBs5 pHBs6
      clear hb
      obtain ⟨pA0, pA1, pA2, pA3⟩ := HBxA.out.two
      obtain ⟨pX0, pX1, pX2, pX3⟩ := HBxX.out.two
      obtain ⟨pHBs0, pHBs1, pHBs2, pHBs3, pHBs4, pHBs5, pHBs6⟩ := HBs.out.seven
      by_cases hwo : 1 < worstA x.disks
      · have dw : decide ((1 : Int) < ((worstA x.disks : Nat) : Int)) = true := by simp; omega
        generalize ((worstA x.disks : Nat) : Int) = ww at *
        clear hwo
        go_wp2_with fail
        refine (ref_Read a (n : Nat) _ _ _ HRdA.out HSN.out.1).mono ?_
        rintro e wR ⟨vR, rfl, hr, hb⟩
        rw [HGR.out] at hr ⊢
        obtain ⟨AR, cR, rfl, _, _⟩ := hr.shape
        rw [HD4.out] at hr ⊢
        have hbe := HBel.out.trans (hb.mono HBel.out.size)
        have hdv := okB.below HDv.out hbe fun k hk _ => hk.2
        have hc1 := run_conv hr Try.underlying23 Try.underlying5 Try.underlying9
        have hc2 := run_conv hdv Try.underlying23 Try.underlying5 Try.underlying9
        clear hr hb hdv
        go_wp2
        go_ret
        exact ⟨rfl, hbe⟩
      have dw : decide ((1 : Int) < ((worstA x.disks : Nat) : Int)) = false := by simp; omega
      obtain ⟨Q', hg', hc', hb'⟩ := HNX.out hag hwo
      generalize ((worstA x.disks : Nat) : Int) = ww at *
      clear hwo hag
      obtain ⟨q0, q1, q2, q3⟩ := HBxA.out.two
      have f1 : BoxAt (set2 wq3 waA.heap.size (.slice (some ⟨bX, oX, none⟩) 4 cX) (.slice AX 0 dX)) _ _ _ := HBxA.out.put2
      have f2 : RdA (set2 wq3 waA.heap.size (.slice (some ⟨bX, oX, none⟩) 4 cX) (.slice AX 0 dX)) _ _ _ := HRdX.out.set2 (b := waA.heap.size) (fun k hk => Nat.ne_of_gt hk.1)
      have f3 := HBel.out.trans (below_set2 (w := wq3) (b := waA.heap.size) (v0 := .slice (some ⟨bX, oX, none⟩) 4 cX) (v1 := .slice AX 0 dX) hord)
      have HF := Lib.hid (And.intro f1 (And.intro (f2.mono (F' := fun k => k ≠ waA.heap.size) fun k hk => Nat.ne_of_gt hk.1) f3))
      have HG' := Lib.hid (And.intro hg' (And.intro hc' hb'))
      clear f1 f2 f3 hg' hc' hb'
      go_wp2
      go_roundw
      case rel => exact ⟨k + 1, HK.out.2, by first | exact upk HK.out | go_num, ⟨x, Q', _, _, _, _, _, HG'.out.1, HG'.out.2.1, HG'.out.2.2, HF.out.1, HF.out.2.1⟩, HF.out.2.2⟩
      case measure => first | exact meask HK.out | exact meask' HK.out | exact meask'' HK.out
namespace playSafeDone
open Go.ChangeShapes Go.WideShapes Go.ChangeAt Go.RowKit M
open Go.ChangeMaps (open_string shut_string)
set_option linter.unusedVariables false
set_option maxRecDepth 100000 in
theorem lifted (os : Os) (started : os.Started) (H : Type) (enc : TypeId × Value → H) :
    ReturnsInHanded {} Try.checked os 9 .any (Rows.playSafeSpec.pre6 enc Try.prog Try.f9 Rows.playSafeRow.domain false) (Rows.playSafeSpec.post enc Try.prog Try.f9 false true false false) := by
  refine returnsInHanded_of_change (C := Try.checked) own started (by kernel_rfl) Try.func9
    (ChangeSpec.witness6 (enc := enc) (C := Try.checked) false ⟨#[], #[.slice none 0 0, .int .i64 0, .slice none 0 0, .slice none 0 0], []⟩ 8 (by kernel_rfl) (by kernel_rfl) (by kernel_rfl) (by kernel_rfl)) ?_
  intro W base args ds gs before hval0 hW hcnd _
  have hval : ∀ (j : Nat) t v, Try.f9.params[j]? = some t → args[j]? = some v → Value.okWide Try.prog W .any base t v := hval0
  have hW' := hW
  obtain ⟨p, q, hA0, hV, rfl, hfz, hnd⟩ := hW
  have hA : DataW.TrodAll enc Try.prog W 0 (fun _ => true) true Try.f9.params.toList args.toList ds p := hA0
  rw [Try.params9] at hA hval
  obtain ⟨v0, vs0, d0, ds0, p0, q0, hargs, rfl, rfl, h0, r0⟩ := trodAll_cons hA
  obtain ⟨v1, vs1, d1, ds1, p1, q1, rfl, rfl, rfl, h1, r1⟩ := trodAll_cons r0
  obtain ⟨v2, vs2, d2, ds2, p2, q2, rfl, rfl, rfl, h2, r2⟩ := trodAll_cons r1
  obtain ⟨v3, vs3, d3, ds3, p3, q3, rfl, rfl, rfl, h3, r3⟩ := trodAll_cons r2
  obtain ⟨rfl, rfl, rfl⟩ := trodAll_nil r3
  obtain rfl : args = #[v0, v1, v2, v3] := by cases args; simp_all
  obtain ⟨rfl, rfl⟩ := trodVars_none hV
  obtain ⟨a0, len0, cap0, rfl⟩ := okWide_slice Try.underlying22 (hval 0 22 v0 rfl rfl)
  have k0 := h0
  have lt0 : ∀ x ∈ p0, x.block < W.heap.size := by obtain ⟨m, hm⟩ := k0; exact DataW.trod_lt m _ _ _ hm
  obtain ⟨fuel0, hf0⟩ := h0
  obtain ⟨b0, w0, l0⟩ := open_steps hf0
  obtain ⟨a1, rfl, rfl, rfl, w1⟩ := open_int Try.underlying3 (hval 1 3 v1 rfl rfl) h1
  have b1 := bounds_i64 w1
  obtain ⟨a2, len2, cap2, rfl⟩ := okWide_slice Try.underlying23 (hval 2 23 v2 rfl rfl)
  have k2 := h2
  have lt2 : ∀ x ∈ p2, x.block < W.heap.size := by obtain ⟨m, hm⟩ := k2; exact DataW.trod_lt m _ _ _ hm
  obtain ⟨fuel2, hf2⟩ := h2
  obtain ⟨b2, w2, l2⟩ := M.open_B Try.underlying23 Try.underlying5 (by kernel_rfl) hf2
  obtain ⟨a3, len3, cap3, rfl⟩ := okWide_slice Try.underlying22 (hval 3 22 v3 rfl rfl)
  have k3 := h3
  have lt3 : ∀ x ∈ p3, x.block < W.heap.size := by obtain ⟨m, hm⟩ := k3; exact DataW.trod_lt m _ _ _ hm
  obtain ⟨fuel3, hf3⟩ := h3
  obtain ⟨b3, w3, l3⟩ := open_steps3 hf3
  clear hA0 hval0
  refine (playSafe_walk b0 _ a1 b2 _ b3 _ W w0 b1.1 b1.2 w2 w3).mono fun e W' ⟨he, bel⟩ => ?_
  subst he
  exact ⟨_, rfl, _, _, _, [], _, [], hW', trodAll_mk1 (shut_bool Try.underlying4 _), (trodAll_cons_mk (Below.trod laidOut (by kernel_rfl) (of_decide_eq_true (by kernel_rfl)) k0 bel lt0) (trodAll_cons_mk (shut_int Try.underlying3 w1) (trodAll_cons_mk (Below.trod laidOut (by kernel_rfl) (of_decide_eq_true (by kernel_rfl)) k2 bel lt2) (trodAll_cons_mk (Below.trod laidOut (by kernel_rfl) (of_decide_eq_true (by kernel_rfl)) k3 bel lt3) trodAll_mk0)))), rfl, bel.frame _, fun h => by cases h⟩
theorem over : Rows.playSafeRow.holds Try.pinned (OpenSpec.ofChange Rows.playSafeSpec) :=
  OpenClaim.holds_of_wide 9 Try.f9 rfl rfl rfl rfl rfl rfl rfl ⟨rfl, rfl, rfl, rfl, rfl⟩ rfl rfl rfl rfl rfl (by kernel_rfl) Try.func9 (by kernel_rfl)
    (of_decide_eq_true (by kernel_rfl)) (by unfold Func.isWrapper; first | (rw [if_pos (by decide +kernel)]; kernel_rfl) | (rw [if_neg (by decide +kernel)]; exact ⟨rfl, rfl⟩))
    (fun os started H enc _ => lifted os started H enc)
/-- The statement. -/
theorem proved : Rows.PlaySafeSaid := over
end playSafeDone
end Go.Proofs.Ytoendmbgfbhidaa

/- Chapter 12: what may.Walk computes: the walk. -/
import Derived.Test.YtoendmbgfbhidaaC24
import Derived.Test.YtoendmbgfbhidaaC25
import Derived.Test.YtoendmbgfbhidaaC15
namespace Go.Proofs.Ytoendmbgfbhidaa
set_option linter.unusedVariables false
open Go Go.RowKit M
/-- How many steps there are, as long as of each stripe one cell at most is none, and none rots that is none. -/
def walkN (a : Arr) : List Step → Nat
  | [] => 0
  | s :: l => if againA a s || decide (1 < worstA (stepP a s).1.disks) then 0 else 1 + walkN (stepP a s).1 l
theorem walkN_stop {a : Arr} {s : Step} {l : List Step} (h : againA a s = true ∨ 1 < worstA (stepP a s).1.disks) : walkN a (s :: l) = 0 := by
  unfold walkN
  rw [if_pos]
  rcases h with h | h
  · simp [h]
  · simp [h]
theorem walkN_go {a : Arr} {s : Step} {l : List Step} (h1 : againA a s = false) (h2 : ¬ 1 < worstA (stepP a s).1.disks) : walkN a (s :: l) = 1 + walkN (stepP a s).1 l := by
  conv => lhs; unfold walkN
  rw [if_neg (by simp [h1]; omega)]
theorem drop_at {l : List Step} {k : Nat} {s : Step} (h : l[k]? = some s) : l.drop k = s :: l.drop (k + 1) := by
  obtain ⟨hl, he⟩ := List.getElem?_eq_some_iff.1 h
  rw [List.drop_eq_getElem_cons hl, he]
theorem newB_Q : blocksQ (fun _ => List.replicate 4 zero4) = newB := by decide
theorem wrapm {k m : Nat} (h : m ≤ 9223372036854775807 ∧ k < m) : wrap64 ((k : Int) + 1) = ((k + 1 : Nat) : Int) := by
  unfold wrap64
  omega
theorem upm {k m : Nat} (h : m ≤ 9223372036854775807 ∧ k < m) : Value.int .i64 (wrap64 ((k : Int) + 1)) = .int .i64 ((k + 1 : Nat) : Int) := by rw [wrapm h]
theorem measm {k m : Nat} (h : m ≤ 9223372036854775807 ∧ k < m) : m - (intOf (.int .i64 ((k + 1 : Nat) : Int))).toNat < m - (intOf (.int .i64 (k : Int))).toNat := by
  simp [intOf]
  omega
theorem measm' {k m : Nat} (h : m ≤ 9223372036854775807 ∧ k < m) : m - (intOf (.int .i64 ((k : Int) + 1))).toNat < m - (intOf (.int .i64 (k : Int))).toNat := by
  simp [intOf]
  omega
theorem measm'' {k m : Nat} (h : m ≤ 9223372036854775807 ∧ k < m) : m - (intOf (.int .i64 (wrap64 ((k : Int) + 1)))).toNat < m - (intOf (.int .i64 (k : Int))).toNat := by rw [wrapm h]; exact measm h
set_option maxRecDepth 100000 in
set_option maxHeartbeats 3200000 in
theorem may_Walk (l : List Step) (v : Value) {F : Fp} (w : World) (h : RdSts w F v l) (hlo : Lo l) :
    Calls Try.prog 48 #[v] w fun e w' => e = .returned (.tuple #[.int .i64 ((walkN newA l : Nat) : Int), .bool true]) ∧ Below w.heap.size w w' := by
  obtain ⟨Am, cm, rfl, hcm1, hcm2, _⟩ := id h
  unfold maxLen at hcm2
  have HM0 := Lib.hid h.lt
  have HLO := Lib.hid hlo
  have HBel := Lib.hid (Below.refl w.heap.size w)
  have hlm : l.length ≤ 9223372036854775807 := by omega
  have HLM := Lib.hid hlm
  have hmf : ∀ (fn : Fn) (first cap : Array Value) (w : World), (Instr.makeFunc fn first cap).run Try.prog w = .ok (.func fn first cap) w := fun _ _ _ _ => rfl
  clear h hlo hlm
  go_enter Try.func48, Try.ntmps48
  go_wp2_with fail
  refine (array_New _).mono ?_
  rintro e waA ⟨vA, rfl, hr, hb⟩
  obtain ⟨bA, oA, cA, AA, dA, rfl, _, _, hcA, hmA⟩ := RdA_open hr good_new.1.shape
  rw [show newA.ints.length = 0 by rw [(show newA.ints = [] from rfl)]; rfl] at hr ⊢
  have ord0A : w.heap.size ≤ waA.heap.size := Nat.le_trans HBel.out.size hb.size
  have hal := below_alloc waA (.cells #[.slice (some ⟨bA, oA, none⟩) 4 cA, .slice AA 0 dA] 30)
  have hX := boxAt_new waA 30 [.slice (some ⟨bA, oA, none⟩) 4 cA, .slice AA 0 dA]
  have hbb := hb.trans (hal.mono hb.size)
  have hrl := hr.lt.mono (F' := fun k => w.heap.size ≤ k ∧ k < waA.heap.size) fun k hk => by have := HBel.out.size;  omega
  have HRdA := Lib.hid (hrl.grow hal)
  replace HBel := Lib.hid (HBel.out.trans (hbb.mono HBel.out.size))
  obtain ⟨wA, hwA⟩ : ∃ x, waA.alloc (.cells #[.slice (some ⟨bA, oA, none⟩) 4 cA, .slice AA 0 dA] 30) = x := ⟨_, rfl⟩
  change BoxAt (waA.alloc (.cells #[.slice (some ⟨bA, oA, none⟩) 4 cA, .slice AA 0 dA] 30)) _ _ _ at hX
  rw [hwA] at hX HRdA HBel   
  have HBxA := Lib.hid hX
  clear hal hX hbb hr hb hrl
  obtain ⟨pA0, pA1, pA2, pA3⟩ := HBxA.out.two
  go_wp2_with fail
  clear hwA
  refine (model_New _).mono ?_
  rintro e wN ⟨vN, rfl, hvN, hb⟩
  replace HBxA := Lib.hid (HBxA.out.grow hb)
  replace HRdA := Lib.hid (HRdA.out.grow hb)
  replace HBel := Lib.hid (HBel.out.trans (hb.mono HBel.out.size))
  clear pA0 pA1 pA2 pA3
  have HRN := Lib.hid (okBB.mono (hvN.toRd_ okB) (F' := fun _ => True) fun _ _ => trivial)
  rw [← newB_Q] at HRN
  have hord := ord0A
  clear hb hvN
  obtain ⟨pA0, pA1, pA2, pA3⟩ := HBxA.out.two
  go_wp2_with fail
  clear pA0 pA1 pA2 pA3
  go_loopw [5, 16] (fun u i wr => ∃ k : Nat, k ≤ l.length ∧ i = .int .i64 k ∧ (∃ (a : Arr) (Qa : Nat → List Bs) (bA : Nat) (oA cA : Nat) (AA : Option Addr) (dA : Nat), M.Good a Qa ∧ M.Calm a ∧ walkN newA l = k + walkN a (l.drop k) ∧ BoxAt wr waA.heap.size 30 [.slice (some ⟨bA, oA, none⟩) 4 cA, .slice AA 0 dA] ∧ RdA wr (fun k => k ≠ waA.heap.size) (.agg #[.slice (some ⟨bA, oA, none⟩) 4 cA, .slice AA 0 dA]) a ∧ RdBB wr (fun _ => True) u (blocksQ Qa)) ∧ Below w.heap.size w wr) (fun _ i _ => l.length - (intOf i).toNat)
  case atStart => exact ⟨0, Nat.zero_le _, rfl, ⟨newA, _, _, _, _, _, _, good_new.1, good_new.2, by simp, HBxA.out, HRdA.out.mono fun k hk => Nat.ne_of_lt hk.2, HRN.out⟩, HBel.out⟩
  case round =>
    clear HBxA HRdA HBel HRN
    obtain ⟨k, hk, rfl, ⟨a, Qa, bA, oA, cA, AA, dA, hgd, hcm, hwn, hbx, hrd, hrn⟩, hlw⟩ := hrel
    have HBxA := Lib.hid hbx
    have HRdA := Lib.hid hrd
    have HBel := Lib.hid hlw
    obtain ⟨AN, cN, rfl, _, hcN⟩ := hrn.shape
    rw [blocksQ_len] at hrn ⊢
    have HRN := Lib.hid hrn
    have HG := Lib.hid (And.intro hgd hcm)
    have HSN := Lib.hid (And.intro hgd.shape hgd.none_)
    have HWN := Lib.hid hwn
    clear hgd hcm hbx hrd hlw hrn hwn
    obtain ⟨pA0, pA1, pA2, pA3⟩ := HBxA.out.two
    by_cases hlt : k < l.length
    rotate_left
    · obtain rfl : k = l.length := by omega
      have HF : Hid (walkN newA l = l.length) := Lib.hid (by rw [HWN.out, List.drop_length]; rfl)
      clear hk hlt
      go_wp2_with fail
      exact bodyPost_ret (v := .tuple #[.int .i64 (l.length : Int), .bool true]) (by simp [results, Try.results48, go_sem, *]) rfl ⟨by rw [HF.out], HBel.out⟩
    obtain ⟨s, hs⟩ : ∃ s, l[k]? = some s := ⟨_, List.getElem?_eq_getElem hlt⟩
    obtain ⟨_, _, e1, _, _, hl⟩ := HM0.out.below HBel.out fun _ hk _ => hk.2
    injection e1 with e1 e2 e3
    subst e1; subst e3
    obtain ⟨b, off, rfl, hb, hb', g0, g1, g2, g3, g4, g5, hsn, ud, g6, hud⟩ := hl k s hs
    obtain ⟨Ad, cd, rfl, _, _⟩ := hud.shape
    clear hl
    have HSB := Lib.hid (And.intro (HLO.out s (List.mem_of_getElem? hs)) hsn)
    have HDR := Lib.hid (drop_at hs)
    have HK : Hid (l.length ≤ 9223372036854775807 ∧ k < l.length) := Lib.hid ⟨HLM.out, hlt⟩
    have hal := below_alloc wr (.cells #[.int .i64 s.kind, .int .i64 s.n, .int .i64 s.m, .int .i64 s.deed.kind, .int .i64 s.deed.n, .int .i64 s.deed.m, .slice Ad s.deed.data.length cd] 68)
    have hX := boxAt_new wr 68 [.int .i64 s.kind, .int .i64 s.n, .int .i64 s.m, .int .i64 s.deed.kind, .int .i64 s.deed.n, .int .i64 s.deed.m, .slice Ad s.deed.data.length cd]
    obtain ⟨wx, hwx⟩ : ∃ x, wr.alloc (.cells #[.int .i64 s.kind, .int .i64 s.n, .int .i64 s.m, .int .i64 s.deed.kind, .int .i64 s.deed.n, .int .i64 s.deed.m, .slice Ad s.deed.data.length cd] 68) = x := ⟨_, rfl⟩
    change BoxAt (wr.alloc (.cells #[.int .i64 s.kind, .int .i64 s.n, .int .i64 s.m, .int .i64 s.deed.kind, .int .i64 s.deed.n, .int .i64 s.deed.m, .slice Ad s.deed.data.length cd] 68)) _ _ _ at hX
    rw [hwx] at hal hX
    have hsz := HBel.out.size
    have hdd := okB.mono (okB.grow hud hal) (F' := fun k => k < w.heap.size) fun k hk => hk.2
    have hH := HBxA.out.grow hal
    have hR := HRdA.out.grow hal
    have hN := okBB.grow HRN.out hal
    have hB := HBel.out.trans (hal.mono hsz)
    clear HBxA HRdA HBel HRN pA0 pA1 pA2 pA3
    have HBxA := Lib.hid hH
    have HRdA := Lib.hid hR
    have HBel := Lib.hid hB
    have HBs := Lib.hid hX
    have HDd := Lib.hid hdd
    have HRN := Lib.hid hN
    clear hal hX hdd hud hs hb hb' hH hR hB hN
    obtain ⟨pA0, pA1, pA2, pA3⟩ := HBxA.out.two
    obtain ⟨pHBs0, pHBs1, pHBs2, pHBs3, pHBs4, pHBs5, pHBs6⟩ := HBs.out.seven
    go_wp2_with fail
    clear hwx g0 g1 g2 g3 g4 g5 g6
    have HSX := Lib.hid (stepP_good HSN.out.1 HSN.out.2 s)
    have HST := Lib.hid (@good_step _ (.inl rfl) a Qa HG.out.1 HG.out.2 s)
    have HWS := Lib.hid (@walkN_stop a s (l.drop (k + 1)))
    have HWG := Lib.hid (@walkN_go a s (l.drop (k + 1)))
    refine (play_Do a s _ _ _ _ HRdA.out ⟨_, rfl, HSB.out.2, HDd.out⟩ HSN.out.1 HSN.out.2 HSB.out.1).mono ?_
    rintro e waX ⟨vX, rfl, hr, hb⟩
    obtain ⟨bX, oX, cX, AX, dX, rfl, _, _, hcX, hmX⟩ := RdA_open hr HSX.out.1
    rw [show (stepP a s).1.ints.length = 0 by rw [HSX.out.2]; rfl] at hr ⊢
    have ord0X : w.heap.size ≤ waX.heap.size := Nat.le_trans HBel.out.size hb.size
    have ordAX : waA.heap.size < waX.heap.size := Nat.lt_of_lt_of_le HBxA.out.lt hb.size
    have hal := below_alloc waX (.cells #[.slice (some ⟨bX, oX, none⟩) 4 cX, .slice AX 0 dX] 30)
    have hX := boxAt_new waX 30 [.slice (some ⟨bX, oX, none⟩) 4 cX, .slice AX 0 dX]
    have hbb := hb.trans (hal.mono hb.size)
    have hrl := hr.lt.mono (F' := fun k => waA.heap.size < k ∧ k < waX.heap.size) fun k hk => by have := HBel.out.size; have := HBxA.out.lt; omega
    have HRdX := Lib.hid (hrl.grow hal)
    replace HBxA := Lib.hid (HBxA.out.grow hbb)
    replace HRdA := Lib.hid (HRdA.out.grow hbb)
    replace HBel := Lib.hid (HBel.out.trans (hbb.mono HBel.out.size))
    replace HBs := Lib.hid (HBs.out.grow hbb)
    replace HDd := Lib.hid (okB.grow HDd.out hbb)
    replace HRN := Lib.hid (okBB.grow HRN.out hbb)
    clear pA0 pA1 pA2 pA3 pHBs0 pHBs1 pHBs2 pHBs3 pHBs4 pHBs5 pHBs6
    obtain ⟨wX, hwX⟩ : ∃ x, waX.alloc (.cells #[.slice (some ⟨bX, oX, none⟩) 4 cX, .slice AX 0 dX] 30) = x := ⟨_, rfl⟩
    change BoxAt (waX.alloc (.cells #[.slice (some ⟨bX, oX, none⟩) 4 cX, .slice AX 0 dX] 30)) _ _ _ at hX
    rw [hwX] at hX HRdX HBel HBxA HRdA HBs HDd HRN
    have HBxX := Lib.hid hX
    clear hal hX hbb hr hb hrl
    obtain ⟨pA0, pA1, pA2, pA3⟩ := HBxA.out.two
    obtain ⟨pX0, pX1, pX2, pX3⟩ := HBxX.out.two
    obtain ⟨pHBs0, pHBs1, pHBs2, pHBs3, pHBs4, pHBs5, pHBs6⟩ := HBs.out.seven
    have HST' : Hid (againA a s = false → ∃ Q', M.Good (stepP a s).1 Q' ∧ blocksQ Q' ∈ listsA (blocksQ Qa) s) := Lib.hid fun h => HST.out h
    clear HST
    generalize (stepP a s).1 = x at *
    generalize (stepP a s).2 = er at *
    go_wp2_with fail
    clear hwX
    refine (may_again a s _ _ _ _ HRdA.out ⟨_, rfl, HSB.out.2, HDd.out⟩ HSN.out.1).mono ?_
    rintro e wq1 ⟨rfl, hb⟩
    replace HBxA := Lib.hid (HBxA.out.grow hb)
    replace HBxX := Lib.hid (HBxX.out.grow hb)
    replace HRdA := Lib.hid (HRdA.out.grow hb)
    replace HRdX := Lib.hid (HRdX.out.grow hb)
    replace HBel := Lib.hid (HBel.out.trans (hb.mono HBel.out.size))
    replace HBs := Lib.hid (HBs.out.grow hb)
    replace HDd := Lib.hid (okB.grow HDd.out hb)
    replace HRN := Lib.hid (okBB.grow HRN.out hb)
    clear pA0 pA1 pA2 pA3 pX0 pX1 pX2 pX3 pHBs0 pHBs1 pHBs2 pHBs3 pHBs4 pHBs5 pHBs6
    clear hb
    obtain ⟨pA0, pA1, pA2, pA3⟩ := HBxA.out.two
    obtain ⟨pX0, pX1, pX2, pX3⟩ := HBxX.out.two
    obtain ⟨pHBs0, pHBs1, pHBs2, pHBs3, pHBs4, pHBs5, pHBs6⟩ := HBs.out.seven
    cases hag : againA a s
    rotate_left
    · skip
      have HF : Hid (walkN newA l = k) := Lib.hid (by rw [HWN.out, HDR.out, HWS.out (.inl hag)]; rfl)
      go_wp2_with fail
      exact bodyPost_ret (v := .tuple #[.int .i64 (k : Int), .bool true]) (by simp [results, Try.results48, go_sem, *]) rfl ⟨by rw [HF.out], HBel.out⟩
    go_wp2_with fail
    refine (mend_Worst x _ _ _ HRdX.out HSX.out.1).mono ?_
    rintro e wq2 ⟨rfl, hb⟩
    replace HBxA := Lib.hid (HBxA.out.grow hb)
    replace HBxX := Lib.hid (HBxX.out.grow hb)
    replace HRdA := Lib.hid (HRdA.out.grow hb)
    replace HRdX := Lib.hid (HRdX.out.grow hb)
    replace HBel := Lib.hid (HBel.out.trans (hb.mono HBel.out.size))
    replace HBs := Lib.hid (HBs.out.grow hb)
    replace HDd := Lib.hid (okB.grow HDd.out hb)
    replace HRN := Lib.hid (okBB.grow HRN.out hb)
    clear pA0 pA1 pA2 pA3 pX0 pX1 pX2 pX3 pHBs0 pHBs1 pHBs2 pHBs3 pHBs4 pHBs5 pHBs6
    clear hb
    obtain ⟨pA0, pA1, pA2, pA3⟩ := HBxA.out.two
    obtain ⟨pX0, pX1, pX2, pX3⟩ := HBxX.out.two
    obtain ⟨pHBs0, pHBs1, pHBs2, pHBs3, pHBs4, pHBs5, pHBs6⟩ := HBs.out.seven
    by_cases hwo : 1 < worstA x.disks
    · have dw : decide ((1 : Int) < ((worstA x.disks : Nat) : Int)) = true := by simp; omega
      have HWO := Lib.hid hwo
      generalize ((worstA x.disks : Nat) : Int) = ww at *
      clear hwo
      have HF : Hid (walkN newA l = k) := Lib.hid (by rw [HWN.out, HDR.out, HWS.out (.inr HWO.out)]; rfl)
      go_wp2_with fail
      exact bodyPost_ret (v := .tuple #[.int .i64 (k : Int), .bool true]) (by simp [results, Try.results48, go_sem, *]) rfl ⟨by rw [HF.out], HBel.out⟩
    have dw : decide ((1 : Int) < ((worstA x.disks : Nat) : Int)) = false := by simp; omega
    obtain ⟨Q', hg', hin'⟩ := HST'.out hag
    have hc' : M.Calm x := calm_iff.1 (Nat.not_lt.1 hwo)
    have HBX := Lib.hid (good_blocks hg' hc')
    have HG' := Lib.hid (And.intro hg' hc')
    have HIN := Lib.hid hin'
    have HWK : Hid (walkN newA l = (k + 1) + walkN x (l.drop (k + 1))) := Lib.hid (by rw [HWN.out, HDR.out, HWG.out hag hwo]; omega)
    generalize ((worstA x.disks : Nat) : Int) = ww at *
    clear hwo hag hg' hc' hin' HWG HWS HST' HWN
    go_wp2_with fail
    refine (array_Blocks x _ _ _ HRdX.out HSX.out.1).mono ?_
    rintro e wb ⟨vb, rfl, hrb, hb⟩
    rw [HBX.out] at hrb ⊢
    obtain ⟨Ab, cb, rfl, _, _⟩ := hrb.shape
    rw [blocksQ_len] at hrb ⊢
    have hwbs := HBxX.out.lt
    have hwbs2 := hb.size
    have hal := below_alloc wb (.cells #[.slice Ab 9 cb] 41)
    have hP := boxAt_new wb 41 [.slice Ab 9 cb]
    have hbb := hb.trans (hal.mono hb.size)
    have hrb' := okBB.mono (okBB.grow hrb hal) (F' := fun k => k ≠ waA.heap.size) (fun k hk => by have := HBxA.out.lt; omega)
    replace HBxA := Lib.hid (HBxA.out.grow hbb)
    replace HBxX := Lib.hid (HBxX.out.grow hbb)
    replace HRdA := Lib.hid (HRdA.out.grow hbb)
    replace HRdX := Lib.hid (HRdX.out.grow hbb)
    replace HBel := Lib.hid (HBel.out.trans (hbb.mono HBel.out.size))
    replace HBs := Lib.hid (HBs.out.grow hbb)
    replace HDd := Lib.hid (okB.grow HDd.out hbb)
    replace HRN := Lib.hid (okBB.grow HRN.out hbb)
    clear pA0 pA1 pA2 pA3 pX0 pX1 pX2 pX3 pHBs0 pHBs1 pHBs2 pHBs3 pHBs4 pHBs5 pHBs6
    obtain ⟨wp, hwp⟩ : ∃ x, wb.alloc (.cells #[.slice Ab 9 cb] 41) = x := ⟨_, rfl⟩
    change BoxAt (wb.alloc (.cells #[.slice Ab 9 cb] 41)) _ _ _ at hP
    rw [hwp] at hP hrb' HBel HBxA HBxX HRdA HRdX HBs HDd HRN
    have HP := Lib.hid hP
    have HRB := Lib.hid hrb'
    clear hal hP hbb hb hrb hrb'
    obtain ⟨pA0, pA1, pA2, pA3⟩ := HBxA.out.two
    obtain ⟨pX0, pX1, pX2, pX3⟩ := HBxX.out.two
    obtain ⟨pHBs0, pHBs1, pHBs2, pHBs3, pHBs4, pHBs5, pHBs6⟩ := HBs.out.seven
    go_wp2_with fail
    clear hwp
    refine (may_Lists (blocksQ Qa) s _ _ _ _ HRN.out ⟨_, rfl, HSB.out.2, HDd.out⟩ (blocksQ_len _)).mono ?_
    rintro e wl ⟨vl, rfl, hrl, hb⟩
    obtain ⟨AL, cL, rfl, _, _⟩ := hrl.shape
    replace HBxA := Lib.hid (HBxA.out.grow hb)
    replace HBxX := Lib.hid (HBxX.out.grow hb)
    replace HRdA := Lib.hid (HRdA.out.grow hb)
    replace HRdX := Lib.hid (HRdX.out.grow hb)
    replace HBel := Lib.hid (HBel.out.trans (hb.mono HBel.out.size))
    replace HBs := Lib.hid (HBs.out.grow hb)
    replace HDd := Lib.hid (okB.grow HDd.out hb)
    replace HRN := Lib.hid (okBB.grow HRN.out hb)
    replace HP := Lib.hid (HP.out.grow hb)
    replace HRB := Lib.hid (okBB.grow HRB.out hb)
    clear pA0 pA1 pA2 pA3 pX0 pX1 pX2 pX3 pHBs0 pHBs1 pHBs2 pHBs3 pHBs4 pHBs5 pHBs6
    have HRL := Lib.hid hrl
    clear hrl hb
    obtain ⟨pA0, pA1, pA2, pA3⟩ := HBxA.out.two
    obtain ⟨pX0, pX1, pX2, pX3⟩ := HBxX.out.two
    obtain ⟨pHBs0, pHBs1, pHBs2, pHBs3, pHBs4, pHBs5, pHBs6⟩ := HBs.out.seven
    go_wp2_with fail
    refine (contains_in (listsA (blocksQ Qa) s) (blocksQ Q') _ _ _ _ HRL.out HP.out HRB.out HIN.out).mono ?_
    rintro e wq3 ⟨rfl, hb⟩
    replace HBxA := Lib.hid (HBxA.out.grow hb)
    replace HBxX := Lib.hid (HBxX.out.grow hb)
    replace HRdA := Lib.hid (HRdA.out.grow hb)
    replace HRdX := Lib.hid (HRdX.out.grow hb)
    replace HBel := Lib.hid (HBel.out.trans (hb.mono HBel.out.size))
    replace HBs := Lib.hid (HBs.out.grow hb)
    replace HDd := Lib.hid (okB.grow HDd.out hb)
    replace HRN := Lib.hid (okBB.grow HRN.out hb)
    replace HP := Lib.hid (HP.out.grow hb)
    replace HRB := Lib.hid (okBB.grow HRB.out hb)
    replace HRL := Lib.hid (okBBB.grow HRL.out hb)
    clear pA0 pA1 pA2 pA3 pX0 pX1 pX2 pX3 pHBs0 pHBs1 pHBs2 pHBs3 pHBs4 pHBs5 pHBs6
    clear hb
    obtain ⟨pA0, pA1, pA2, pA3⟩ := HBxA.out.two
    obtain ⟨pX0, pX1, pX2, pX3⟩ := HBxX.out.two
    obtain ⟨pHBs0, pHBs1, pHBs2, pHBs3, pHBs4, pHBs5, pHBs6⟩ := HBs.out.seven
    have hP0 : wq3.cell? ⟨wb.heap.size, 0, none⟩ = some (.slice Ab 9 cb) := HP.out.cell 0
    go_wp2_with fail
    clear pA0 pA1 pA2 pA3 pX0 pX1 pX2 pX3 pHBs0 pHBs1 pHBs2 pHBs3 pHBs4 pHBs5 pHBs6
    clear hP0
    have hnb : wb.heap.size ≠ waA.heap.size := by have := HBxA.out.lt; omega
    have hbs0 : w.heap.size ≤ wq3.heap.size := HBel.out.size
    refine region_three (w.heap.size) [Ck (.agg #[.slice (some ⟨bX, oX, none⟩) 4 cX, .slice AX 0 dX]), Ck (.slice Ab 9 cb), Tk, Ck (.slice Ab 9 cb)] (fun m wy => (m = 0 → Below wq3.heap.size wq3 wy ∧ BoxAt wy waA.heap.size 30 [.slice (some ⟨bA, oA, none⟩) 4 cA, .slice AA 0 dA]) ∧ (m = 1 → BoxAt wy waA.heap.size 30 [.slice (some ⟨bX, oX, none⟩) 4 cX, .slice AX 0 dX]) ∧ BoxAt wy waX.heap.size 30 [.slice (some ⟨bX, oX, none⟩) 4 cX, .slice AX 0 dX] ∧ RdA wy (fun k => waA.heap.size < k ∧ k < waX.heap.size) (.agg #[.slice (some ⟨bX, oX, none⟩) 4 cX, .slice AX 0 dX]) x ∧ BoxAt wy wb.heap.size 41 [.slice Ab 9 cb] ∧ RdBB wy (fun k => k ≠ waA.heap.size) (.slice Ab 9 cb) (blocksQ Q')) [2] (by kernel_rfl) (by kernel_rfl) (by kernel_rfl) (by kernel_rfl) (by kernel_rfl) ?_ ?_ (fun m w w' hb h => ⟨fun e => ⟨(h.1 e).1.trans (hb.mono (h.1 e).1.size), (h.1 e).2.grow hb⟩, fun e => (h.2.1 e).grow hb, h.2.2.1.grow hb, h.2.2.2.1.grow hb, h.2.2.2.2.1.grow hb, okBB.grow h.2.2.2.2.2 hb⟩) (⟨fun _ => ⟨Below.refl _ _, HBxA.out⟩, fun h => absurd h (by decide), HBxX.out, HRdX.out, HP.out, HRB.out⟩) ?_ ?_
    · first | exact Nat.le_refl _ | assumption | omega
    · repeat (first | exact trivial | refine ⟨mCk _, ?_⟩ | refine ⟨mTk, ?_⟩ | refine ⟨mEk _ (by first | exact mC _ | exact mT | exact mR okB _ | exact mR okBB _ | exact mR okBBB _ | exact mRn okB _ _ | exact mRn okBB _ _ | exact mOw _ _ _ _ | exact mRm okB _ _ _ | exact mRa _ _ | exact mRg okROW _ _ | exact mRg okROWS _ _ | exact mRf okDISKS _ _ | exact mRg okCELL _ _ | exact mRg okBB _ _ | exact mRg okB _ _ | exact mRg okIs _ _ | exact mRi _ _), ?_⟩ | refine ⟨mFk _ (by first | exact mC _ | exact mT | exact mR okB _ | exact mR okBB _ | exact mR okBBB _ | exact mRn okB _ _ | exact mRn okBB _ _ | exact mOw _ _ _ _ | exact mRm okB _ _ _ | exact mRa _ _ | exact mRg okROW _ _ | exact mRg okROWS _ _ | exact mRf okDISKS _ _ | exact mRg okCELL _ _ | exact mRg okBB _ _ | exact mRg okB _ _ | exact mRg okIs _ _ | exact mRi _ _), ?_⟩ | refine ⟨fun _ => (by first | exact mC _ | exact mT | exact mR okB _ | exact mR okBB _ | exact mR okBBB _ | exact mRn okB _ _ | exact mRn okBB _ _ | exact mOw _ _ _ _ | exact mRm okB _ _ _ | exact mRa _ _ | exact mRg okROW _ _ | exact mRg okROWS _ _ | exact mRf okDISKS _ _ | exact mRg okCELL _ _ | exact mRg okBB _ _ | exact mRg okB _ _ | exact mRg okIs _ _ | exact mRi _ _), ?_⟩)
    · simp only [StepsL3]
      refine ⟨?_, ?_, ?_, ?_, trivial⟩
      · refine @id (StepG _ _ _ _ _ _ _ _ _ _ _) ?_
        intro nst ys wx hn hmay hw hS hd
        obtain rfl : nst = 0 := may_one hmay hn (by kernel_rfl)
        intro K hK
        simp only [putL, Act.put, List.setIfInBounds_toArray, List.set_cons_zero, List.set_cons_succ, Nat.zero_add, Nat.reduceAdd] at hK ⊢
        rw [if_pos (by rfl)]
        obtain ⟨x0, x1, x2, x3⟩ := hS.2.2.1.two
        go_simp
        exact hK _ _ (Below.refl _ _) rfl
      · refine @id (StepG _ _ _ _ _ _ _ _ _ _ _) ?_
        intro nst ys wx hn hmay hw hS hd
        rcases (may_two hmay hn (by kernel_rfl) : nst = 0 ∨ nst = 1) with rfl | rfl
        · intro K hK
          simp only [putL, Act.put, List.setIfInBounds_toArray, List.set_cons_zero, List.set_cons_succ, Nat.zero_add, Nat.reduceAdd] at hK ⊢
          rw [if_pos (by rfl)]
          have kx : wx.cell? ⟨wb.heap.size, 0, none⟩ = some (.slice Ab 9 cb) := hS.2.2.2.2.1.cell 0
          go_simp
          exact hK _ _ (Below.refl _ _) rfl
        · intro K hK
          simp only [putL, Act.put, List.setIfInBounds_toArray, List.set_cons_zero, List.set_cons_succ, Nat.zero_add, Nat.reduceAdd] at hK ⊢
          rw [if_pos (by rfl)]
          have kx : wx.cell? ⟨wb.heap.size, 0, none⟩ = some (.slice Ab 9 cb) := hS.2.2.2.2.1.cell 0
          go_simp
          exact hK _ _ (Below.refl _ _) rfl
      · refine @id (StepS _ _ _ _ _ _ _ _ _ _ _) ?_
        intro ys wx hw hS hd K hK
        have e0 : ys 0 = _ := hd 0 (by decide)
        simp only [putL, Act.put, List.setIfInBounds_toArray, List.set_cons_zero, List.set_cons_succ, Nat.zero_add, Nat.reduceAdd, e0] at hK ⊢
        rw [if_pos (by rfl)]
        obtain ⟨q0, q1, q2, q3⟩ := (hS.1 rfl).2.two
        have f1 := (hS.1 rfl).2.put2 (v0 := .slice (some ⟨bX, oX, none⟩) 4 cX) (v1 := .slice AX 0 dX)
        have f2 := hS.2.2.1.far2 (b' := waA.heap.size) (v0 := .slice (some ⟨bX, oX, none⟩) 4 cX) (v1 := .slice AX 0 dX) (by omega)
        have f3 := hS.2.2.2.1.set2 (b := waA.heap.size) (v0 := .slice (some ⟨bX, oX, none⟩) 4 cX) (v1 := .slice AX 0 dX) (fun k hk => Nat.ne_of_gt hk.1)
        have f4 := hS.2.2.2.2.1.far2 (b' := waA.heap.size) (v0 := .slice (some ⟨bX, oX, none⟩) 4 cX) (v1 := .slice AX 0 dX) hnb
        have f5 := okBB.set2 hS.2.2.2.2.2 (b := waA.heap.size) (v0 := .slice (some ⟨bX, oX, none⟩) 4 cX) (v1 := .slice AX 0 dX) (fun k hk => hk)
        have hbs := below_set2 (w := wx) (B := w.heap.size) (b := waA.heap.size) (v0 := .slice (some ⟨bX, oX, none⟩) 4 cX) (v1 := .slice AX 0 dX) hord
        go_simp
        exact hK undef _ hbs ⟨fun e => absurd e (by decide), fun _ => f1, f2, f3, f4, f5⟩ trivial ⟨fun _ h => h, fun _ h => h, fun _ h => h, fun _ h => h, trivial⟩
      · refine @id (StepG _ _ _ _ _ _ _ _ _ _ _) ?_
        intro nst ys wx hn hmay hw hS hd
        intro K hK
        have e1 : ys 1 = _ := hd 1 (by decide)
        simp only [putL, Act.put, List.setIfInBounds_toArray, List.set_cons_zero, List.set_cons_succ, Nat.zero_add, Nat.reduceAdd, e1] at hK ⊢
        rw [if_pos (by rfl)]
        go_simp
        exact hK _ _ (Below.refl _ _) rfl
    · intro ys w' hl' hS' hV
      have e3 : ys 3 = _ := hV 3 (by decide)
      clear hV
      simp only [putL, Act.put, List.setIfInBounds_toArray, List.set_cons_zero, List.set_cons_succ, Nat.zero_add, Nat.reduceAdd, e3]
      clear e3
      have HFin := Lib.hid (And.intro (hS'.2.1 rfl) (And.intro (hS'.2.2.2.1.mono (F' := fun k => k ≠ waA.heap.size) fun k hk => Nat.ne_of_gt hk.1) (And.intro (okBB.mono hS'.2.2.2.2.2 (F' := fun _ => True) fun _ _ => trivial) (HBel.out.trans hl'))))
      clear hS' hl'
      go_wp2
      go_roundw
      case rel => exact ⟨k + 1, HK.out.2, by first | exact upm HK.out | go_num, ⟨x, Q', _, _, _, _, _, HG'.out.1, HG'.out.2, HWK.out, HFin.out.1, HFin.out.2.1, HFin.out.2.2.1⟩, HFin.out.2.2.2⟩
      case measure => first | exact measm HK.out | exact measm' HK.out | exact measm'' HK.out
end Go.Proofs.Ytoendmbgfbhidaa

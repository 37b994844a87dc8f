/- Chapter 8: the closed fact of its statements. -/
import Derived.Test.YtoendmbgfbhidaaC21
import Derived.Test.YtoendmbgfbhidaaC14
import Derived.Test.YtoendmbgfbhidaaC15
import Derived.Test.YtoendmbgfbhidaaRegionG
namespace Go.Proofs.Ytoendmbgfbhidaa
set_option linter.unusedVariables false
namespace M
open Go Go.RowKit
structure OkG {α : Type} (R : Rel α) : Prop where
  old : ∀ {w w' : World} {F F' : Fp} {u : Value} {x : α}, R w F u x → Below w.heap.size w w' → (∀ k, F k → k < w.heap.size → F' k) → R w' F' u x
def Rgh {α : Type} (R : Rel α) (B : Nat) (gh : Option Nat) (x : α) : Know := fun w v => R w (fun k => B ≤ k ∧ k < w.heap.size ∧ some k ≠ gh) v x
theorem mRgh {α : Type} {R : Rel α} (o : OkG R) (B : Nat) (gh : Option Nat) (x : α) : Mono (Rgh R B gh x) := fun _ _ _ hb h => o.old h hb fun _ hk _ => ⟨hk.1, Nat.lt_of_lt_of_le hk.2.1 hb.size, hk.2.2⟩
theorem rgh_alloc {α : Type} {R : Rel α} (o : OkG R) {B : Nat} {x : α} {w w' : World} {u : Value} (h : Rgh R B none x w u) (hb : Below w.heap.size w w') : Rgh R B (some w.heap.size) x w' u :=
  o.old h hb fun k hk hl => ⟨hk.1, Nat.lt_of_lt_of_le hl hb.size, fun e => by injection e; omega⟩
theorem rgh_new {α : Type} {R : Rel α} (o : OkG R) {B : Nat} {x : α} {w w' : World} {u : Value} {gh : Option Nat} (h : R w' (fun k => w.heap.size ≤ k) u x) (hl : R w' (fun k => w.heap.size ≤ k) u x → R w' (fun k => w.heap.size ≤ k ∧ k < w'.heap.size) u x) (hB : B ≤ w.heap.size) (hg : ∀ b, gh = some b → b < w.heap.size) : Rgh R B gh x w' u :=
  o.old (hl h) (Below.refl _ _) fun k hk _ => ⟨by omega, hk.2, fun e => by have := hg k e.symm; omega⟩
def Ek2 (n : Nat) (V V' : Know) : KnowS := fun m => if m ≤ n then V else V'
theorem mEk2 (n : Nat) {V V' : Know} (h : Mono V) (h' : Mono V') : MonoS (Ek2 n V V') := fun m => by
  unfold Ek2
  split
  · exact h
  · exact h'
/-- A value and an error, of which the error alone is known. -/
def TupC (e : Int) : Know := fun _ v => ∃ v', v = .tuple #[v', .int .i64 e] ∧ True
theorem mTup (e : Int) : Mono (TupC e) := fun _ _ _ _ h => h
theorem may_three {ops : Array Oper} {st : List Nat} {i n n0 n1 n2 : Nat} (hmay : mayBe ops st i n = true) (hn : n ≤ st.length) (h : (List.range (st.length + 1)).all (fun m => !(mayBe ops st i m) || decide (m = n0) || decide (m = n1) || decide (m = n2)) = true) : n = n0 ∨ n = n1 ∨ n = n2 := by
  rw [List.all_eq_true] at h
  have := h n (by simp; omega)
  rw [hmay] at this
  simpa [or_assoc] using this
theorem okGo {α : Type} {R : Rel α} (o : Ok R) : OkG R := ⟨fun h hb hF => o.old h hb hF⟩
theorem okGA : OkG RdA := ⟨fun h hb hF => (h.lt.grow hb).mono fun k hk => hF k hk.1 hk.2⟩
end M
open Go Go.RowKit M
theorem okGI : OkG RdI := ⟨fun h hb hF => by obtain ⟨cv, rfl, h⟩ := h; exact ⟨cv, rfl, okBB.old h hb hF⟩⟩
/-- A value and an error. -/
def TupR {α : Type} (R : Rel α) (e : Int) : Rel α := fun w F v x => ∃ v', v = .tuple #[v', .int .i64 e] ∧ R w F v' x
theorem okGTA {e : Int} : OkG (TupR RdA e) := ⟨fun h hb hF => by obtain ⟨v, rfl, h⟩ := h; exact ⟨v, rfl, okGA.old h hb hF⟩⟩
theorem okGTI {e : Int} : OkG (TupR RdI e) := ⟨fun h hb hF => by obtain ⟨v, rfl, h⟩ := h; exact ⟨v, rfl, okGI.old h hb hF⟩⟩
theorem RdI.lt {w : World} {F : Fp} {v : Value} {i : Int × List Bs} (h : RdI w F v i) : RdI w (fun k => F k ∧ k < w.heap.size) v i := by obtain ⟨cv, rfl, h⟩ := h; exact ⟨cv, rfl, okBB.lt h⟩
def abcd8 : Bs := [97, 98, 99, 100]
def d8 : Deed := ⟨1, 4, 0, abcd8⟩
def a8 : Arr := (doA newA d8).1
def i8 : Int × List Bs := (planA newA.disks d8).1
def x8 : Arr := mountA (writeA newA i8 2)
def y8 : Arr := mountA (writeA newA i8 0)
theorem f8_facts : (doA newA d8).2 = 0 ∧ (planA newA.disks d8).2 = 0 ∧ readA a8.disks 4 = (abcd8, 0) ∧ (blocksA a8.disks).2 = 0 ∧ (blocksA a8.disks).1.length = 9 ∧ (readA x8.disks 4).1 = abcd8 ∧ (readA y8.disks 4).1 = [0, 0, 0, 0] ∧ i8.2.length = 4 := by decide +kernel
theorem a8_shape : Shape a8.disks := doA_shape good_new.1.shape d8
theorem a8_ints : a8.ints = [] := by
  show (doA newA d8).1.ints = []
  rw [doA_okA f8_facts.2.1]
  rfl
theorem i8_ok : IntOk i8 := intOk_plan good_new.1.shape f8_facts.2.1
theorem w2_shape : Shape (writeA newA i8 2).disks := putTo_shape good_new.1.shape _ i8_ok.2.2.2 _
theorem w0_shape : Shape (writeA newA i8 0).disks := putTo_shape good_new.1.shape _ i8_ok.2.2.2 _
theorem w2_ints : IntsOk (writeA newA i8 2) := .inr ⟨i8, rfl, i8_ok⟩
theorem w0_ints : IntsOk (writeA newA i8 0) := .inl rfl
theorem x8_shape : Shape x8.disks := mountTo_shape w2_shape (ints_ok w2_ints) _
theorem y8_shape : Shape y8.disks := mountTo_shape w0_shape (ints_ok w0_ints) _

set_option maxRecDepth 100000 in
set_option maxHeartbeats 1600000 in
theorem law8_alive (w : World) : Calls Try.prog 32 #[] w fun e w' => e = .returned (.bool true) ∧ Below w.heap.size w w' := by
  have HBel := Lib.hid (Below.refl w.heap.size w)
  have kc := fun (w : World) (C : Array Value) (n c : Nat) => Lib.run_convert_bytes_const (P := Try.prog) w 23 5 C n c Try.underlying23 Try.underlying5
  have hd0 : RdB (w.alloc (.cells #[.int .u8 97, .int .u8 98, .int .u8 99, .int .u8 100] 5 (4, 5))) (fun _ => True) (.slice (some ⟨w.heap.size, 0, none⟩) 4 4) abcd8 := rd_const w abcd8 _ _ (by decide)
  have hl0 := below_alloc w (.cells #[.int .u8 97, .int .u8 98, .int .u8 99, .int .u8 100] 5 (4, 5))
  obtain ⟨w0, hw0⟩ : ∃ x, w.alloc (.cells #[.int .u8 97, .int .u8 98, .int .u8 99, .int .u8 100] 5 (4, 5)) = x := ⟨_, rfl⟩
  have hsz0 : w0.heap.size = w.heap.size + 1 := by rw [← hw0, alloc_size]
  rw [hw0] at hd0 hl0
  have hX0 := boxAt_new w0 25 [.int .i64 1, .int .i64 4, .int .i64 0, .slice (some ⟨w.heap.size, 0, none⟩) 4 4]
  have hl1 := below_alloc w0 (.cells #[.int .i64 1, .int .i64 4, .int .i64 0, .slice (some ⟨w.heap.size, 0, none⟩) 4 4] 25)
  have hd1 := okB.grow (okB.lt hd0) hl1
  obtain ⟨w1, hw1⟩ : ∃ x, w0.alloc (.cells #[.int .i64 1, .int .i64 4, .int .i64 0, .slice (some ⟨w.heap.size, 0, none⟩) 4 4] 25) = x := ⟨_, rfl⟩
  change BoxAt (w0.alloc (.cells #[.int .i64 1, .int .i64 4, .int .i64 0, .slice (some ⟨w.heap.size, 0, none⟩) 4 4] 25)) _ _ _ at hX0
  rw [hw1] at hX0 hd1 hl1
  rw [hsz0] at hX0
  have HBd := Lib.hid hX0
  have HDd := Lib.hid hd1
  replace HBel := Lib.hid (hl0.trans (hl1.mono hl0.size))
  clear hX0 hd1 hl1 hd0 hl0
  go_enter Try.func32, Try.ntmps32
  go_wp2_with fail
  clear hw0 hw1 hsz0
  refine region_ghost (w1.heap.size) (fun gh => [Ek 1 (Rgh RdA w1.heap.size gh newA), Ck (.agg #[.int .i64 1, .int .i64 4, .int .i64 0, .slice (some ⟨w.heap.size, 0, none⟩) 4 4]), Ek 1 (Rgh (TupR RdA 0) w1.heap.size gh a8), Ek2 1 (Rgh (TupR RdA 0) w1.heap.size gh a8) (TupC 0), Ek 1 (Rgh RdA w1.heap.size gh a8), Ck (.int .i64 0), Fk 1 (Cv (.pointer (gh.map fun b => ⟨b, 0, none⟩))), Tk, Ck (.int .i64 0)]) (fun gh n wx => (n = 0 → gh = none) ∧ (n = 1 → ∃ b, gh = some b ∧ w1.heap.size ≤ b ∧ BoxAt wx b 30 [.slice none 0 0, .slice none 0 0]) ∧ (n = 2 → ∃ b dv iv, gh = some b ∧ w1.heap.size ≤ b ∧ BoxAt wx b 30 [dv, iv] ∧ RdA wx (fun k => w1.heap.size ≤ k ∧ k < wx.heap.size ∧ k ≠ b) (.agg #[dv, iv]) a8) ∧ (∀ b, gh = some b → b < wx.heap.size)) [6, 7] (by kernel_rfl) (by kernel_rfl) (by kernel_rfl) (by kernel_rfl) (by kernel_rfl) ?_ ?_ (fun gh n w w' hb h => ⟨h.1, fun e => (h.2.1 e).imp fun b hv => ⟨hv.1, hv.2.1, hv.2.2.grow hb⟩, fun e => (h.2.2.1 e).imp fun b hv => hv.imp fun dv hv => hv.imp fun iv hv => ⟨hv.1, hv.2.1, hv.2.2.1.grow hb, okGA.old hv.2.2.2 hb fun k hk hl => ⟨hk.1, Nat.lt_of_lt_of_le hl hb.size, hk.2.2⟩⟩, fun b e => Nat.lt_of_lt_of_le (h.2.2.2 b e) hb.size⟩) (none) (⟨fun _ => rfl, fun h => absurd h (by decide), fun h => absurd h (by decide), fun b h => by cases h⟩) ?_ ?_
  · first | exact Nat.le_refl _ | assumption | omega
  · intro gh
    repeat (first | exact trivial | refine ⟨mCk _, ?_⟩ | refine ⟨mTk, ?_⟩ | refine ⟨mEk _ (by first | exact mTup _ | exact mRgh okGA _ _ _ | exact mRgh okGI _ _ _ | exact mRgh okGTA _ _ _ | exact mRgh okGTI _ _ _ | exact mRgh (okGo okBB) _ _ _ | exact mRgh (okGo okB) _ _ _ | exact mC _ | exact mT | exact mR okB _ | exact mR okBB _ | exact mR okBBB _ | exact mRn okB _ _ | exact mRn okBB _ _ | exact mOw _ _ _ _ | exact mRm okB _ _ _ | exact mRa _ _ | exact mRg okROW _ _ | exact mRg okROWS _ _ | exact mRf okDISKS _ _ | exact mRg okCELL _ _ | exact mRg okBB _ _ | exact mRg okB _ _ | exact mRg okIs _ _ | exact mRi _ _), ?_⟩ | refine ⟨mFk _ (by first | exact mTup _ | exact mRgh okGA _ _ _ | exact mRgh okGI _ _ _ | exact mRgh okGTA _ _ _ | exact mRgh okGTI _ _ _ | exact mRgh (okGo okBB) _ _ _ | exact mRgh (okGo okB) _ _ _ | exact mC _ | exact mT | exact mR okB _ | exact mR okBB _ | exact mR okBBB _ | exact mRn okB _ _ | exact mRn okBB _ _ | exact mOw _ _ _ _ | exact mRm okB _ _ _ | exact mRa _ _ | exact mRg okROW _ _ | exact mRg okROWS _ _ | exact mRf okDISKS _ _ | exact mRg okCELL _ _ | exact mRg okBB _ _ | exact mRg okB _ _ | exact mRg okIs _ _ | exact mRi _ _), ?_⟩ | refine ⟨fun _ => (by first | exact mTup _ | exact mRgh okGA _ _ _ | exact mRgh okGI _ _ _ | exact mRgh okGTA _ _ _ | exact mRgh okGTI _ _ _ | exact mRgh (okGo okBB) _ _ _ | exact mRgh (okGo okB) _ _ _ | exact mC _ | exact mT | exact mR okB _ | exact mR okBB _ | exact mR okBBB _ | exact mRn okB _ _ | exact mRn okBB _ _ | exact mOw _ _ _ _ | exact mRm okB _ _ _ | exact mRa _ _ | exact mRg okROW _ _ | exact mRg okROWS _ _ | exact mRf okDISKS _ _ | exact mRg okCELL _ _ | exact mRg okBB _ _ | exact mRg okB _ _ | exact mRg okIs _ _ | exact mRi _ _), ?_⟩ | refine ⟨mEk2 _ (by first | exact mTup _ | exact mRgh okGA _ _ _ | exact mRgh okGI _ _ _ | exact mRgh okGTA _ _ _ | exact mRgh okGTI _ _ _ | exact mRgh (okGo okBB) _ _ _ | exact mRgh (okGo okB) _ _ _ | exact mC _ | exact mT | exact mR okB _ | exact mR okBB _ | exact mR okBBB _ | exact mRn okB _ _ | exact mRn okBB _ _ | exact mOw _ _ _ _ | exact mRm okB _ _ _ | exact mRa _ _ | exact mRg okROW _ _ | exact mRg okROWS _ _ | exact mRf okDISKS _ _ | exact mRg okCELL _ _ | exact mRg okBB _ _ | exact mRg okB _ _ | exact mRg okIs _ _ | exact mRi _ _) (by first | exact mTup _ | exact mRgh okGA _ _ _ | exact mRgh okGI _ _ _ | exact mRgh okGTA _ _ _ | exact mRgh okGTI _ _ _ | exact mRgh (okGo okBB) _ _ _ | exact mRgh (okGo okB) _ _ _ | exact mC _ | exact mT | exact mR okB _ | exact mR okBB _ | exact mR okBBB _ | exact mRn okB _ _ | exact mRn okBB _ _ | exact mOw _ _ _ _ | exact mRm okB _ _ _ | exact mRa _ _ | exact mRg okROW _ _ | exact mRg okROWS _ _ | exact mRf okDISKS _ _ | exact mRg okCELL _ _ | exact mRg okBB _ _ | exact mRg okB _ _ | exact mRg okIs _ _ | exact mRi _ _), ?_⟩)
  · simp only [StepsL3G]
    refine ⟨?_, ?_, ?_, ?_, ?_, ?_, ?_, ?_, ?_, trivial⟩
    · refine @id (StepGG _ _ _ _ _ _ _ _ _ _ _) ?_
      intro gh nst ys wx hn hmay hw hS hd
      rcases (may_two hmay hn (by kernel_rfl) : nst = 0 ∨ nst = 1) with rfl | rfl
      · intro K hK
        simp only [putL, Act.put, List.setIfInBounds_toArray, List.set_cons_zero, List.set_cons_succ, Nat.zero_add, Nat.reduceAdd] at hK ⊢
        rw [if_pos (by rfl)]
        go_simp
        refine (array_New _).mono ?_
        rintro e w' ⟨v', rfl, hv', hb'⟩
        exact hK _ _ hb' (rgh_new okGA hv' (fun h => h.lt) hw.size hS.2.2.2)
      · intro K hK
        simp only [putL, Act.put, List.setIfInBounds_toArray, List.set_cons_zero, List.set_cons_succ, Nat.zero_add, Nat.reduceAdd] at hK ⊢
        rw [if_pos (by rfl)]
        go_simp
        refine (array_New _).mono ?_
        rintro e w' ⟨v', rfl, hv', hb'⟩
        exact hK _ _ hb' (rgh_new okGA hv' (fun h => h.lt) hw.size hS.2.2.2)
    · refine @id (StepGG _ _ _ _ _ _ _ _ _ _ _) ?_
      intro gh nst ys wx hn hmay hw hS hd
      intro K hK
      simp only [putL, Act.put, List.setIfInBounds_toArray, List.set_cons_zero, List.set_cons_succ, Nat.zero_add, Nat.reduceAdd] at hK ⊢
      rw [if_pos (by rfl)]
      obtain ⟨k0, k1, k2, k3⟩ := (HBd.out.keep hw HBd.out.lt).four
      go_simp
      exact hK _ _ (Below.refl _ _) rfl
    · refine @id (StepGG _ _ _ _ _ _ _ _ _ _ _) ?_
      intro gh nst ys wx hn hmay hw hS hd
      rcases (may_two hmay hn (by kernel_rfl) : nst = 0 ∨ nst = 1) with rfl | rfl
      · intro K hK
        have k0 := hd 0 (by decide)
        change (Rgh RdA w1.heap.size gh newA) wx (ys 0) at k0
        have e1 : ys 1 = _ := hd 1 (by decide)
        simp only [putL, Act.put, List.setIfInBounds_toArray, List.set_cons_zero, List.set_cons_succ, Nat.zero_add, Nat.reduceAdd, e1] at hK ⊢
        rw [if_pos (by rfl)]
        have k0' : RdA wx (fun k => w1.heap.size ≤ k ∧ k < wx.heap.size ∧ some k ≠ gh) (ys 0) newA := k0
        obtain ⟨b0, o0, c0, A0, ci, hy, _, _, _, _⟩ := RdA_open k0' good_new.1.shape
        rw [hy] at k0'
        simp only [hy] at hK ⊢
        clear k0 hy
        go_simp
        refine (array_Do newA d8 _ _ _ _ k0' ⟨_, rfl, okB.below HDd.out hw fun _ _ hl => hl⟩ good_new.1.shape (.inl rfl)).mono ?_
        rintro e w' ⟨v', rfl, hv', hb'⟩
        rw [f8_facts.1]
        exact hK _ _ hb' (rgh_new okGTA ⟨_, rfl, hv'⟩ (fun h => h.imp fun v hv => ⟨hv.1, hv.2.lt⟩) hw.size hS.2.2.2)
      · intro K hK
        have k0 := hd 0 (by decide)
        change (Rgh RdA w1.heap.size gh newA) wx (ys 0) at k0
        have e1 : ys 1 = _ := hd 1 (by decide)
        simp only [putL, Act.put, List.setIfInBounds_toArray, List.set_cons_zero, List.set_cons_succ, Nat.zero_add, Nat.reduceAdd, e1] at hK ⊢
        rw [if_pos (by rfl)]
        have k0' : RdA wx (fun k => w1.heap.size ≤ k ∧ k < wx.heap.size ∧ some k ≠ gh) (ys 0) newA := k0
        obtain ⟨b0, o0, c0, A0, ci, hy, _, _, _, _⟩ := RdA_open k0' good_new.1.shape
        rw [hy] at k0'
        simp only [hy] at hK ⊢
        clear k0 hy
        go_simp
        refine (array_Do newA d8 _ _ _ _ k0' ⟨_, rfl, okB.below HDd.out hw fun _ _ hl => hl⟩ good_new.1.shape (.inl rfl)).mono ?_
        rintro e w' ⟨v', rfl, hv', hb'⟩
        rw [f8_facts.1]
        exact hK _ _ hb' (rgh_new okGTA ⟨_, rfl, hv'⟩ (fun h => h.imp fun v hv => ⟨hv.1, hv.2.lt⟩) hw.size hS.2.2.2)
    · refine @id (StepGG _ _ _ _ _ _ _ _ _ _ _) ?_
      intro gh nst ys wx hn hmay hw hS hd
      rcases (may_two hmay hn (by kernel_rfl) : nst = 0 ∨ nst = 1) with rfl | rfl
      · intro K hK
        have k2 := hd 2 (by decide)
        change (Rgh (TupR RdA 0) w1.heap.size gh a8) wx (ys 2) at k2
        simp only [putL, Act.put, List.setIfInBounds_toArray, List.set_cons_zero, List.set_cons_succ, Nat.zero_add, Nat.reduceAdd] at hK ⊢
        rw [if_pos (by rfl)]
        go_simp
        exact hK _ _ (Below.refl _ _) k2
      · intro K hK
        have k2 := hd 2 (by decide)
        change (Rgh (TupR RdA 0) w1.heap.size gh a8) wx (ys 2) at k2
        simp only [putL, Act.put, List.setIfInBounds_toArray, List.set_cons_zero, List.set_cons_succ, Nat.zero_add, Nat.reduceAdd] at hK ⊢
        rw [if_pos (by rfl)]
        go_simp
        exact hK _ _ (Below.refl _ _) k2
    · refine @id (StepGG _ _ _ _ _ _ _ _ _ _ _) ?_
      intro gh nst ys wx hn hmay hw hS hd
      rcases (may_two hmay hn (by kernel_rfl) : nst = 0 ∨ nst = 1) with rfl | rfl
      · intro K hK
        have k3 := hd 3 (by decide)
        change (Rgh (TupR RdA 0) w1.heap.size gh a8) wx (ys 3) at k3
        simp only [putL, Act.put, List.setIfInBounds_toArray, List.set_cons_zero, List.set_cons_succ, Nat.zero_add, Nat.reduceAdd] at hK ⊢
        rw [if_pos (by rfl)]
        obtain ⟨v', hy, k3'⟩ := k3
        simp only [hy] at hK ⊢
        go_simp
        exact hK _ _ (Below.refl _ _) k3'
      · intro K hK
        have k3 := hd 3 (by decide)
        change (Rgh (TupR RdA 0) w1.heap.size gh a8) wx (ys 3) at k3
        simp only [putL, Act.put, List.setIfInBounds_toArray, List.set_cons_zero, List.set_cons_succ, Nat.zero_add, Nat.reduceAdd] at hK ⊢
        rw [if_pos (by rfl)]
        obtain ⟨v', hy, k3'⟩ := k3
        simp only [hy] at hK ⊢
        go_simp
        exact hK _ _ (Below.refl _ _) k3'
    · refine @id (StepGG _ _ _ _ _ _ _ _ _ _ _) ?_
      intro gh nst ys wx hn hmay hw hS hd
      rcases (may_three hmay hn (by kernel_rfl) : nst = 0 ∨ nst = 1 ∨ nst = 2) with rfl | rfl | rfl
      · intro K hK
        have k3 := hd 3 (by decide)
        change (Rgh (TupR RdA 0) w1.heap.size gh a8) wx (ys 3) at k3
        simp only [putL, Act.put, List.setIfInBounds_toArray, List.set_cons_zero, List.set_cons_succ, Nat.zero_add, Nat.reduceAdd] at hK ⊢
        rw [if_pos (by rfl)]
        obtain ⟨v', hy, k3'⟩ := k3
        simp only [hy] at hK ⊢
        go_simp
        exact hK _ _ (Below.refl _ _) rfl
      · intro K hK
        have k3 := hd 3 (by decide)
        change (Rgh (TupR RdA 0) w1.heap.size gh a8) wx (ys 3) at k3
        simp only [putL, Act.put, List.setIfInBounds_toArray, List.set_cons_zero, List.set_cons_succ, Nat.zero_add, Nat.reduceAdd] at hK ⊢
        rw [if_pos (by rfl)]
        obtain ⟨v', hy, k3'⟩ := k3
        simp only [hy] at hK ⊢
        go_simp
        exact hK _ _ (Below.refl _ _) rfl
      · intro K hK
        have k3 := hd 3 (by decide)
        change (TupC 0) wx (ys 3) at k3
        simp only [putL, Act.put, List.setIfInBounds_toArray, List.set_cons_zero, List.set_cons_succ, Nat.zero_add, Nat.reduceAdd] at hK ⊢
        rw [if_pos (by rfl)]
        obtain ⟨v', hy, k3'⟩ := k3
        simp only [hy] at hK ⊢
        go_simp
        exact hK _ _ (Below.refl _ _) rfl
    · refine @id (StepSG _ _ _ _ _ _ _ _ _ _ _) ?_
      intro gh ys wx hw hS hd K hK
      simp only [putL, Act.put, List.setIfInBounds_toArray, List.set_cons_zero, List.set_cons_succ, Nat.zero_add, Nat.reduceAdd] at hK ⊢
      rw [if_pos (by rfl)]
      have hgh : gh = none := hS.1 rfl
      subst hgh
      have hbs := below_alloc wx (.cells #[.slice none 0 0, .slice none 0 0] 30)
      have hbx := boxAt_new wx 30 [.slice none 0 0, .slice none 0 0]
      have hlt : wx.heap.size < (wx.alloc (.cells #[.slice none 0 0, .slice none 0 0] 30)).heap.size := by rw [alloc_size]; exact Nat.lt_succ_self _
      go_simp
      exact hK _ _ (some wx.heap.size) (hbs.mono hw.size) ⟨fun h => absurd h (by decide), fun _ => ⟨_, rfl, hw.size, hbx⟩, fun h => absurd h (by decide), fun b e => by injection e with e; omega⟩ rfl ⟨fun u hu => (by first | exact rgh_alloc okGA hu hbs | exact rgh_alloc okGI hu hbs | exact rgh_alloc okGTA hu hbs | exact rgh_alloc okGTI hu hbs | exact rgh_alloc (okGo okBB) hu hbs | exact rgh_alloc (okGo okB) hu hbs), fun _ h => h, fun u hu => (by first | exact rgh_alloc okGA hu hbs | exact rgh_alloc okGI hu hbs | exact rgh_alloc okGTA hu hbs | exact rgh_alloc okGTI hu hbs | exact rgh_alloc (okGo okBB) hu hbs | exact rgh_alloc (okGo okB) hu hbs), fun u hu => (by first | exact rgh_alloc okGA hu hbs | exact rgh_alloc okGI hu hbs | exact rgh_alloc okGTA hu hbs | exact rgh_alloc okGTI hu hbs | exact rgh_alloc (okGo okBB) hu hbs | exact rgh_alloc (okGo okB) hu hbs), fun u hu => (by first | exact rgh_alloc okGA hu hbs | exact rgh_alloc okGI hu hbs | exact rgh_alloc okGTA hu hbs | exact rgh_alloc okGTI hu hbs | exact rgh_alloc (okGo okBB) hu hbs | exact rgh_alloc (okGo okB) hu hbs), fun _ h => h, fun _ h => h.elim, fun _ h => h, fun _ h => h, trivial⟩
    · refine @id (StepSG _ _ _ _ _ _ _ _ _ _ _) ?_
      intro gh ys wx hw hS hd K hK
      have k4 := hd 4 (by decide)
      change (Rgh RdA w1.heap.size gh a8) wx (ys 4) at k4
      have e6 : ys 6 = _ := hd 6 (by decide)
      simp only [putL, Act.put, List.setIfInBounds_toArray, List.set_cons_zero, List.set_cons_succ, Nat.zero_add, Nat.reduceAdd, e6] at hK ⊢
      rw [if_pos (by rfl)]
      obtain ⟨b, rfl, hbb, hbx⟩ := hS.2.1 rfl
      have k4' : RdA wx (fun k => w1.heap.size ≤ k ∧ k < wx.heap.size ∧ some k ≠ some b) (ys 4) a8 := k4
      obtain ⟨b0, o0, c0, A0, ci, hy, _, _, _, _⟩ := RdA_open k4' a8_shape
      rw [hy] at k4'
      simp only [hy, Option.map_some] at hK ⊢
      clear k4 hy
      obtain ⟨q0, q1, q2, q3⟩ := hbx.two
      have hput := hbx.put2 (v0 := .slice (some ⟨b0, o0, none⟩) 4 c0) (v1 := .slice A0 a8.ints.length ci)
      have hrd := k4'.set2 (b := b) (v0 := .slice (some ⟨b0, o0, none⟩) 4 c0) (v1 := .slice A0 a8.ints.length ci) (fun k hk e => hk.2.2 (by rw [e]))
      have hbs := below_set2 (w := wx) (B := w1.heap.size) (b := b) (v0 := .slice (some ⟨b0, o0, none⟩) 4 c0) (v1 := .slice A0 a8.ints.length ci) hbb
      have hlt := hbx.lt
      have hss : (set2 wx b (.slice (some ⟨b0, o0, none⟩) 4 c0) (.slice A0 a8.ints.length ci)).heap.size = wx.heap.size := set2_size
      go_simp
      exact hK undef _ (some b) hbs ⟨fun h => absurd h (by decide), fun h => absurd h (by decide), fun _ => ⟨b, _, _, rfl, hbb, hput, hrd.mono fun k hk => ⟨hk.1, Nat.lt_of_lt_of_eq hk.2.1 hss.symm, fun e => hk.2.2 (by rw [e])⟩⟩, fun b' e => by injection e with e; subst e; exact Nat.lt_of_lt_of_eq hlt hss.symm⟩ trivial ⟨fun _ _ => trivial, fun _ h => h, fun _ _ => trivial, fun u hu => hu.imp fun v hv => ⟨hv.1, trivial⟩, fun _ _ => trivial, fun _ h => h, fun _ h => h, fun _ h => h, fun _ h => h, trivial⟩
    · refine @id (StepGG _ _ _ _ _ _ _ _ _ _ _) ?_
      intro gh nst ys wx hn hmay hw hS hd
      intro K hK
      have e5 : ys 5 = _ := hd 5 (by decide)
      simp only [putL, Act.put, List.setIfInBounds_toArray, List.set_cons_zero, List.set_cons_succ, Nat.zero_add, Nat.reduceAdd, e5] at hK ⊢
      rw [if_pos (by rfl)]
      go_simp
      exact hK _ _ (Below.refl _ _) rfl
  · intro gh ys w' hl' hS' hV
    have e6 : ys 6 = _ := hV 6 (by decide)
    have e8 : ys 8 = _ := hV 8 (by decide)
    clear hV
    simp only [putL, Act.put, List.setIfInBounds_toArray, List.set_cons_zero, List.set_cons_succ, Nat.zero_add, Nat.reduceAdd, e6, e8]
    clear e6 e8
    obtain ⟨pA, dvA, ivA, rfl, hpA, hbx, hrd⟩ := hS'.2.2.1 rfl
    obtain ⟨bA, oA, cA, AA, dA, hag, _, _, hcA, hmA⟩ := RdA_open hrd a8_shape
    injection hag with hag
    simp only [Array.mk.injEq, List.cons.injEq, and_true] at hag
    obtain ⟨rfl, rfl⟩ := hag
    simp only [Option.map_some]
    rename World => wA
    replace HBel := Lib.hid (HBel.out.trans (hl'.mono HBel.out.size))
    replace HBd := Lib.hid (HBd.out.grow hl')
    replace HDd := Lib.hid (okB.grow HDd.out hl')
    have HBxA := Lib.hid hbx
    have HRdA := Lib.hid hrd
    clear hbx hrd hS' hl'
    obtain ⟨pA0, pA1, pA2, pA3⟩ := HBxA.out.two
    go_wp2_with fail
    refine region_ghost (wA.heap.size) (fun gh => [Ek 1 (Rgh RdA wA.heap.size gh newA), Ck (.agg #[.int .i64 1, .int .i64 4, .int .i64 0, .slice (some ⟨w.heap.size, 0, none⟩) 4 4]), Ek 1 (Rgh (TupR RdI 0) wA.heap.size gh i8), Ek2 1 (Rgh (TupR RdI 0) wA.heap.size gh i8) (TupC 0), Ek 1 (Rgh RdI wA.heap.size gh i8), Ck (.int .i64 0), Fk 1 (Cv (.pointer (gh.map fun b => ⟨b, 0, none⟩))), Tk, Ck (.int .i64 0)]) (fun gh n wx => (n = 0 → gh = none) ∧ (n = 1 → ∃ b, gh = some b ∧ wA.heap.size ≤ b ∧ BoxAt wx b 46 [.int .i64 0, .slice none 0 0]) ∧ (n = 2 → ∃ b iv, gh = some b ∧ wA.heap.size ≤ b ∧ BoxAt wx b 46 [.int .i64 i8.1, iv] ∧ RdBB wx (fun k => wA.heap.size ≤ k ∧ k < wx.heap.size ∧ k ≠ b) iv i8.2) ∧ (∀ b, gh = some b → b < wx.heap.size)) [6, 7] (by kernel_rfl) (by kernel_rfl) (by kernel_rfl) (by kernel_rfl) (by kernel_rfl) ?_ ?_ (fun gh n w w' hb h => ⟨h.1, fun e => (h.2.1 e).imp fun b hv => ⟨hv.1, hv.2.1, hv.2.2.grow hb⟩, fun e => (h.2.2.1 e).imp fun b hv => hv.imp fun iv hv => ⟨hv.1, hv.2.1, hv.2.2.1.grow hb, okBB.old hv.2.2.2 hb fun k hk hl => ⟨hk.1, Nat.lt_of_lt_of_le hl hb.size, hk.2.2⟩⟩, fun b e => Nat.lt_of_lt_of_le (h.2.2.2 b e) hb.size⟩) (none) (⟨fun _ => rfl, fun h => absurd h (by decide), fun h => absurd h (by decide), fun b h => by cases h⟩) ?_ ?_
    · first | exact Nat.le_refl _ | assumption | omega
    · intro gh
      repeat (first | exact trivial | refine ⟨mCk _, ?_⟩ | refine ⟨mTk, ?_⟩ | refine ⟨mEk _ (by first | exact mTup _ | exact mRgh okGA _ _ _ | exact mRgh okGI _ _ _ | exact mRgh okGTA _ _ _ | exact mRgh okGTI _ _ _ | exact mRgh (okGo okBB) _ _ _ | exact mRgh (okGo okB) _ _ _ | exact mC _ | exact mT | exact mR okB _ | exact mR okBB _ | exact mR okBBB _ | exact mRn okB _ _ | exact mRn okBB _ _ | exact mOw _ _ _ _ | exact mRm okB _ _ _ | exact mRa _ _ | exact mRg okROW _ _ | exact mRg okROWS _ _ | exact mRf okDISKS _ _ | exact mRg okCELL _ _ | exact mRg okBB _ _ | exact mRg okB _ _ | exact mRg okIs _ _ | exact mRi _ _), ?_⟩ | refine ⟨mFk _ (by first | exact mTup _ | exact mRgh okGA _ _ _ | exact mRgh okGI _ _ _ | exact mRgh okGTA _ _ _ | exact mRgh okGTI _ _ _ | exact mRgh (okGo okBB) _ _ _ | exact mRgh (okGo okB) _ _ _ | exact mC _ | exact mT | exact mR okB _ | exact mR okBB _ | exact mR okBBB _ | exact mRn okB _ _ | exact mRn okBB _ _ | exact mOw _ _ _ _ | exact mRm okB _ _ _ | exact mRa _ _ | exact mRg okROW _ _ | exact mRg okROWS _ _ | exact mRf okDISKS _ _ | exact mRg okCELL _ _ | exact mRg okBB _ _ | exact mRg okB _ _ | exact mRg okIs _ _ | exact mRi _ _), ?_⟩ | refine ⟨fun _ => (by first | exact mTup _ | exact mRgh okGA _ _ _ | exact mRgh okGI _ _ _ | exact mRgh okGTA _ _ _ | exact mRgh okGTI _ _ _ | exact mRgh (okGo okBB) _ _ _ | exact mRgh (okGo okB) _ _ _ | exact mC _ | exact mT | exact mR okB _ | exact mR okBB _ | exact mR okBBB _ | exact mRn okB _ _ | exact mRn okBB _ _ | exact mOw _ _ _ _ | exact mRm okB _ _ _ | exact mRa _ _ | exact mRg okROW _ _ | exact mRg okROWS _ _ | exact mRf okDISKS _ _ | exact mRg okCELL _ _ | exact mRg okBB _ _ | exact mRg okB _ _ | exact mRg okIs _ _ | exact mRi _ _), ?_⟩ | refine ⟨mEk2 _ (by first | exact mTup _ | exact mRgh okGA _ _ _ | exact mRgh okGI _ _ _ | exact mRgh okGTA _ _ _ | exact mRgh okGTI _ _ _ | exact mRgh (okGo okBB) _ _ _ | exact mRgh (okGo okB) _ _ _ | exact mC _ | exact mT | exact mR okB _ | exact mR okBB _ | exact mR okBBB _ | exact mRn okB _ _ | exact mRn okBB _ _ | exact mOw _ _ _ _ | exact mRm okB _ _ _ | exact mRa _ _ | exact mRg okROW _ _ | exact mRg okROWS _ _ | exact mRf okDISKS _ _ | exact mRg okCELL _ _ | exact mRg okBB _ _ | exact mRg okB _ _ | exact mRg okIs _ _ | exact mRi _ _) (by first | exact mTup _ | exact mRgh okGA _ _ _ | exact mRgh okGI _ _ _ | exact mRgh okGTA _ _ _ | exact mRgh okGTI _ _ _ | exact mRgh (okGo okBB) _ _ _ | exact mRgh (okGo okB) _ _ _ | exact mC _ | exact mT | exact mR okB _ | exact mR okBB _ | exact mR okBBB _ | exact mRn okB _ _ | exact mRn okBB _ _ | exact mOw _ _ _ _ | exact mRm okB _ _ _ | exact mRa _ _ | exact mRg okROW _ _ | exact mRg okROWS _ _ | exact mRf okDISKS _ _ | exact mRg okCELL _ _ | exact mRg okBB _ _ | exact mRg okB _ _ | exact mRg okIs _ _ | exact mRi _ _), ?_⟩)
    · simp only [StepsL3G]
      refine ⟨?_, ?_, ?_, ?_, ?_, ?_, ?_, ?_, ?_, trivial⟩
      · refine @id (StepGG _ _ _ _ _ _ _ _ _ _ _) ?_
        intro gh nst ys wx hn hmay hw hS hd
        rcases (may_two hmay hn (by kernel_rfl) : nst = 0 ∨ nst = 1) with rfl | rfl
        · intro K hK
          simp only [putL, Act.put, List.setIfInBounds_toArray, List.set_cons_zero, List.set_cons_succ, Nat.zero_add, Nat.reduceAdd] at hK ⊢
          rw [if_pos (by rfl)]
          go_simp
          refine (array_New _).mono ?_
          rintro e w' ⟨v', rfl, hv', hb'⟩
          exact hK _ _ hb' (rgh_new okGA hv' (fun h => h.lt) hw.size hS.2.2.2)
        · intro K hK
          simp only [putL, Act.put, List.setIfInBounds_toArray, List.set_cons_zero, List.set_cons_succ, Nat.zero_add, Nat.reduceAdd] at hK ⊢
          rw [if_pos (by rfl)]
          go_simp
          refine (array_New _).mono ?_
          rintro e w' ⟨v', rfl, hv', hb'⟩
          exact hK _ _ hb' (rgh_new okGA hv' (fun h => h.lt) hw.size hS.2.2.2)
      · refine @id (StepGG _ _ _ _ _ _ _ _ _ _ _) ?_
        intro gh nst ys wx hn hmay hw hS hd
        intro K hK
        simp only [putL, Act.put, List.setIfInBounds_toArray, List.set_cons_zero, List.set_cons_succ, Nat.zero_add, Nat.reduceAdd] at hK ⊢
        rw [if_pos (by rfl)]
        obtain ⟨k0, k1, k2, k3⟩ := (HBd.out.keep hw HBd.out.lt).four
        go_simp
        exact hK _ _ (Below.refl _ _) rfl
      · refine @id (StepGG _ _ _ _ _ _ _ _ _ _ _) ?_
        intro gh nst ys wx hn hmay hw hS hd
        rcases (may_two hmay hn (by kernel_rfl) : nst = 0 ∨ nst = 1) with rfl | rfl
        · intro K hK
          have k0 := hd 0 (by decide)
          change (Rgh RdA wA.heap.size gh newA) wx (ys 0) at k0
          have e1 : ys 1 = _ := hd 1 (by decide)
          simp only [putL, Act.put, List.setIfInBounds_toArray, List.set_cons_zero, List.set_cons_succ, Nat.zero_add, Nat.reduceAdd, e1] at hK ⊢
          rw [if_pos (by rfl)]
          have k0' : RdA wx (fun k => wA.heap.size ≤ k ∧ k < wx.heap.size ∧ some k ≠ gh) (ys 0) newA := k0
          obtain ⟨b0, o0, c0, A0, ci, hy, _, _, _, _⟩ := RdA_open k0' good_new.1.shape
          rw [hy] at k0'
          simp only [hy] at hK ⊢
          clear k0 hy
          go_simp
          refine (array_Plan newA d8 _ _ _ _ k0' ⟨_, rfl, okB.below HDd.out hw fun _ _ hl => hl⟩ good_new.1.shape).mono ?_
          rintro e w' ⟨v', rfl, hv', hb'⟩
          rw [f8_facts.2.1]
          exact hK _ _ hb' (rgh_new okGTI ⟨_, rfl, hv'⟩ (fun h => h.imp fun v hv => ⟨hv.1, hv.2.lt⟩) hw.size hS.2.2.2)
        · intro K hK
          have k0 := hd 0 (by decide)
          change (Rgh RdA wA.heap.size gh newA) wx (ys 0) at k0
          have e1 : ys 1 = _ := hd 1 (by decide)
          simp only [putL, Act.put, List.setIfInBounds_toArray, List.set_cons_zero, List.set_cons_succ, Nat.zero_add, Nat.reduceAdd, e1] at hK ⊢
          rw [if_pos (by rfl)]
          have k0' : RdA wx (fun k => wA.heap.size ≤ k ∧ k < wx.heap.size ∧ some k ≠ gh) (ys 0) newA := k0
          obtain ⟨b0, o0, c0, A0, ci, hy, _, _, _, _⟩ := RdA_open k0' good_new.1.shape
          rw [hy] at k0'
          simp only [hy] at hK ⊢
          clear k0 hy
          go_simp
          refine (array_Plan newA d8 _ _ _ _ k0' ⟨_, rfl, okB.below HDd.out hw fun _ _ hl => hl⟩ good_new.1.shape).mono ?_
          rintro e w' ⟨v', rfl, hv', hb'⟩
          rw [f8_facts.2.1]
          exact hK _ _ hb' (rgh_new okGTI ⟨_, rfl, hv'⟩ (fun h => h.imp fun v hv => ⟨hv.1, hv.2.lt⟩) hw.size hS.2.2.2)
      · refine @id (StepGG _ _ _ _ _ _ _ _ _ _ _) ?_
        intro gh nst ys wx hn hmay hw hS hd
        rcases (may_two hmay hn (by kernel_rfl) : nst = 0 ∨ nst = 1) with rfl | rfl
        · intro K hK
          have k2 := hd 2 (by decide)
          change (Rgh (TupR RdI 0) wA.heap.size gh i8) wx (ys 2) at k2
          simp only [putL, Act.put, List.setIfInBounds_toArray, List.set_cons_zero, List.set_cons_succ, Nat.zero_add, Nat.reduceAdd] at hK ⊢
          rw [if_pos (by rfl)]
          go_simp
          exact hK _ _ (Below.refl _ _) k2
        · intro K hK
          have k2 := hd 2 (by decide)
          change (Rgh (TupR RdI 0) wA.heap.size gh i8) wx (ys 2) at k2
          simp only [putL, Act.put, List.setIfInBounds_toArray, List.set_cons_zero, List.set_cons_succ, Nat.zero_add, Nat.reduceAdd] at hK ⊢
          rw [if_pos (by rfl)]
          go_simp
          exact hK _ _ (Below.refl _ _) k2
      · refine @id (StepGG _ _ _ _ _ _ _ _ _ _ _) ?_
        intro gh nst ys wx hn hmay hw hS hd
        rcases (may_two hmay hn (by kernel_rfl) : nst = 0 ∨ nst = 1) with rfl | rfl
        · intro K hK
          have k3 := hd 3 (by decide)
          change (Rgh (TupR RdI 0) wA.heap.size gh i8) wx (ys 3) at k3
          simp only [putL, Act.put, List.setIfInBounds_toArray, List.set_cons_zero, List.set_cons_succ, Nat.zero_add, Nat.reduceAdd] at hK ⊢
          rw [if_pos (by rfl)]
          obtain ⟨v', hy, k3'⟩ := k3
          simp only [hy] at hK ⊢
          go_simp
          exact hK _ _ (Below.refl _ _) k3'
        · intro K hK
          have k3 := hd 3 (by decide)
          change (Rgh (TupR RdI 0) wA.heap.size gh i8) wx (ys 3) at k3
          simp only [putL, Act.put, List.setIfInBounds_toArray, List.set_cons_zero, List.set_cons_succ, Nat.zero_add, Nat.reduceAdd] at hK ⊢
          rw [if_pos (by rfl)]
          obtain ⟨v', hy, k3'⟩ := k3
          simp only [hy] at hK ⊢
          go_simp
          exact hK _ _ (Below.refl _ _) k3'
      · refine @id (StepGG _ _ _ _ _ _ _ _ _ _ _) ?_
        intro gh nst ys wx hn hmay hw hS hd
        rcases (may_three hmay hn (by kernel_rfl) : nst = 0 ∨ nst = 1 ∨ nst = 2) with rfl | rfl | rfl
        · intro K hK
          have k3 := hd 3 (by decide)
          change (Rgh (TupR RdI 0) wA.heap.size gh i8) wx (ys 3) at k3
          simp only [putL, Act.put, List.setIfInBounds_toArray, List.set_cons_zero, List.set_cons_succ, Nat.zero_add, Nat.reduceAdd] at hK ⊢
          rw [if_pos (by rfl)]
          obtain ⟨v', hy, k3'⟩ := k3
          simp only [hy] at hK ⊢
          go_simp
          exact hK _ _ (Below.refl _ _) rfl
        · intro K hK
          have k3 := hd 3 (by decide)
          change (Rgh (TupR RdI 0) wA.heap.size gh i8) wx (ys 3) at k3
          simp only [putL, Act.put, List.setIfInBounds_toArray, List.set_cons_zero, List.set_cons_succ, Nat.zero_add, Nat.reduceAdd] at hK ⊢
          rw [if_pos (by rfl)]
          obtain ⟨v', hy, k3'⟩ := k3
          simp only [hy] at hK ⊢
          go_simp
          exact hK _ _ (Below.refl _ _) rfl
        · intro K hK
          have k3 := hd 3 (by decide)
          change (TupC 0) wx (ys 3) at k3
          simp only [putL, Act.put, List.setIfInBounds_toArray, List.set_cons_zero, List.set_cons_succ, Nat.zero_add, Nat.reduceAdd] at hK ⊢
          rw [if_pos (by rfl)]
          obtain ⟨v', hy, k3'⟩ := k3
          simp only [hy] at hK ⊢
          go_simp
          exact hK _ _ (Below.refl _ _) rfl
      · refine @id (StepSG _ _ _ _ _ _ _ _ _ _ _) ?_
        intro gh ys wx hw hS hd K hK
        simp only [putL, Act.put, List.setIfInBounds_toArray, List.set_cons_zero, List.set_cons_succ, Nat.zero_add, Nat.reduceAdd] at hK ⊢
        rw [if_pos (by rfl)]
        have hgh : gh = none := hS.1 rfl
        subst hgh
        have hbs := below_alloc wx (.cells #[.int .i64 0, .slice none 0 0] 46)
        have hbx := boxAt_new wx 46 [.int .i64 0, .slice none 0 0]
        have hlt : wx.heap.size < (wx.alloc (.cells #[.int .i64 0, .slice none 0 0] 46)).heap.size := by rw [alloc_size]; exact Nat.lt_succ_self _
        go_simp
        exact hK _ _ (some wx.heap.size) (hbs.mono hw.size) ⟨fun h => absurd h (by decide), fun _ => ⟨_, rfl, hw.size, hbx⟩, fun h => absurd h (by decide), fun b e => by injection e with e; omega⟩ rfl ⟨fun u hu => (by first | exact rgh_alloc okGA hu hbs | exact rgh_alloc okGI hu hbs | exact rgh_alloc okGTA hu hbs | exact rgh_alloc okGTI hu hbs | exact rgh_alloc (okGo okBB) hu hbs | exact rgh_alloc (okGo okB) hu hbs), fun _ h => h, fun u hu => (by first | exact rgh_alloc okGA hu hbs | exact rgh_alloc okGI hu hbs | exact rgh_alloc okGTA hu hbs | exact rgh_alloc okGTI hu hbs | exact rgh_alloc (okGo okBB) hu hbs | exact rgh_alloc (okGo okB) hu hbs), fun u hu => (by first | exact rgh_alloc okGA hu hbs | exact rgh_alloc okGI hu hbs | exact rgh_alloc okGTA hu hbs | exact rgh_alloc okGTI hu hbs | exact rgh_alloc (okGo okBB) hu hbs | exact rgh_alloc (okGo okB) hu hbs), fun u hu => (by first | exact rgh_alloc okGA hu hbs | exact rgh_alloc okGI hu hbs | exact rgh_alloc okGTA hu hbs | exact rgh_alloc okGTI hu hbs | exact rgh_alloc (okGo okBB) hu hbs | exact rgh_alloc (okGo okB) hu hbs), fun _ h => h, fun _ h => h.elim, fun _ h => h, fun _ h => h, trivial⟩
      · refine @id (StepSG _ _ _ _ _ _ _ _ _ _ _) ?_
        intro gh ys wx hw hS hd K hK
        have k4 := hd 4 (by decide)
        change (Rgh RdI wA.heap.size gh i8) wx (ys 4) at k4
        have e6 : ys 6 = _ := hd 6 (by decide)
        simp only [putL, Act.put, List.setIfInBounds_toArray, List.set_cons_zero, List.set_cons_succ, Nat.zero_add, Nat.reduceAdd, e6] at hK ⊢
        rw [if_pos (by rfl)]
        obtain ⟨b, rfl, hbb, hbx⟩ := hS.2.1 rfl
        obtain ⟨cv, hy, k4'⟩ := k4
        obtain ⟨Ac, cc, rfl, _, _⟩ := k4'.shape
        simp only [hy, Option.map_some] at hK ⊢
        clear hy
        obtain ⟨q0, q1, q2, q3⟩ := hbx.two
        have hput := hbx.put2 (v0 := .int .i64 i8.1) (v1 := .slice Ac i8.2.length cc)
        have hrd := okBB.set2 k4' (b := b) (v0 := .int .i64 i8.1) (v1 := .slice Ac i8.2.length cc) (fun k hk e => hk.2.2 (by rw [e]))
        have hbs := below_set2 (w := wx) (B := wA.heap.size) (b := b) (v0 := .int .i64 i8.1) (v1 := .slice Ac i8.2.length cc) hbb
        have hlt := hbx.lt
        have hss : (set2 wx b (.int .i64 i8.1) (.slice Ac i8.2.length cc)).heap.size = wx.heap.size := set2_size
        go_simp
        exact hK undef _ (some b) hbs ⟨fun h => absurd h (by decide), fun h => absurd h (by decide), fun _ => ⟨b, _, rfl, hbb, hput, okBB.mono hrd fun k hk => ⟨hk.1, Nat.lt_of_lt_of_eq hk.2.1 hss.symm, fun e => hk.2.2 (by rw [e])⟩⟩, fun b' e => by injection e with e; subst e; exact Nat.lt_of_lt_of_eq hlt hss.symm⟩ trivial ⟨fun _ _ => trivial, fun _ h => h, fun _ _ => trivial, fun u hu => hu.imp fun v hv => ⟨hv.1, trivial⟩, fun _ _ => trivial, fun _ h => h, fun _ h => h, fun _ h => h, fun _ h => h, trivial⟩
      · refine @id (StepGG _ _ _ _ _ _ _ _ _ _ _) ?_
        intro gh nst ys wx hn hmay hw hS hd
        intro K hK
        have e5 : ys 5 = _ := hd 5 (by decide)
        simp only [putL, Act.put, List.setIfInBounds_toArray, List.set_cons_zero, List.set_cons_succ, Nat.zero_add, Nat.reduceAdd, e5] at hK ⊢
        rw [if_pos (by rfl)]
        go_simp
        exact hK _ _ (Below.refl _ _) rfl
    · intro gh ys w' hl' hS' hV
      have e6 : ys 6 = _ := hV 6 (by decide)
      have e8 : ys 8 = _ := hV 8 (by decide)
      clear hV
      simp only [putL, Act.put, List.setIfInBounds_toArray, List.set_cons_zero, List.set_cons_succ, Nat.zero_add, Nat.reduceAdd, e6, e8]
      clear e6 e8
  
      obtain ⟨pI, ivI, rfl, hpI, hbx, hrd⟩ := hS'.2.2.1 rfl
      obtain ⟨AI, cI, rfl, hcI, hmI⟩ := hrd.shape
      rw [f8_facts.2.2.2.2.2.2.2] at hbx hrd hcI
      simp only [Option.map_some]
      rename World => wI
      replace HBxA := Lib.hid (HBxA.out.grow hl')
      replace HRdA := Lib.hid (HRdA.out.grow hl')
      replace HBel := Lib.hid (HBel.out.trans (hl'.mono HBel.out.size))
      replace HBd := Lib.hid (HBd.out.grow hl')
      replace HDd := Lib.hid (okB.grow HDd.out hl')
      clear pA0 pA1 pA2 pA3
      have HBI := Lib.hid hbx
      have HRI := Lib.hid hrd
      clear hbx hrd hS' hl'
      obtain ⟨pA0, pA1, pA2, pA3⟩ := HBxA.out.two
      go_wp2_with fail
      refine (array_Read a8 4 _ _ _ HRdA.out a8_shape).mono ?_
      rintro e wR ⟨vR, rfl, hr, hb⟩
      rw [f8_facts.2.2.1] at hr ⊢
      replace HBxA := Lib.hid (HBxA.out.grow hb)
      replace HRdA := Lib.hid (HRdA.out.grow hb)
      replace HBel := Lib.hid (HBel.out.trans (hb.mono HBel.out.size))
      replace HBd := Lib.hid (HBd.out.grow hb)
      replace HDd := Lib.hid (okB.grow HDd.out hb)
      replace HBI := Lib.hid (HBI.out.grow hb)
      replace HRI := Lib.hid (okBB.grow HRI.out hb)
      clear pA0 pA1 pA2 pA3
      obtain ⟨AR, cR, rfl, _, _⟩ := hr.shape
      have HR := Lib.hid hr
      clear hr hb
      obtain ⟨pA0, pA1, pA2, pA3⟩ := HBxA.out.two
      go_wp2_with fail
      refine (array_Blocks a8 _ _ _ HRdA.out a8_shape).mono ?_
      rintro e wK ⟨vK, rfl, hr, hb⟩
      rw [f8_facts.2.2.2.1]
      replace HBxA := Lib.hid (HBxA.out.grow hb)
      replace HRdA := Lib.hid (HRdA.out.grow hb)
      replace HBel := Lib.hid (HBel.out.trans (hb.mono HBel.out.size))
      replace HBd := Lib.hid (HBd.out.grow hb)
      replace HDd := Lib.hid (okB.grow HDd.out hb)
      replace HBI := Lib.hid (HBI.out.grow hb)
      replace HRI := Lib.hid (okBB.grow HRI.out hb)
      replace HR := Lib.hid (okB.grow HR.out hb)
      clear pA0 pA1 pA2 pA3
      obtain ⟨AK, cK, rfl, _, _⟩ := hr.shape
      rw [f8_facts.2.2.2.2.1]
      clear hr hb
      obtain ⟨pA0, pA1, pA2, pA3⟩ := HBxA.out.two
      go_wp2_with fail
      refine region_ghost (wK.heap.size) (fun gh => [Ek 1 (Rgh RdA wK.heap.size gh newA), Ck (.agg #[.int .i64 i8.1, .slice AI 4 cI]), Ek 1 (Rgh RdA wK.heap.size gh (writeA newA i8 2)), Ek 1 (Rgh RdA wK.heap.size gh x8), Fk 1 (Cv (.pointer (gh.map fun b => ⟨b, 0, none⟩))), Tk]) (fun gh n wx => (n = 0 → gh = none) ∧ (n = 1 → ∃ b, gh = some b ∧ wK.heap.size ≤ b ∧ BoxAt wx b 30 [.slice none 0 0, .slice none 0 0]) ∧ (n = 2 → ∃ b dv iv, gh = some b ∧ wK.heap.size ≤ b ∧ BoxAt wx b 30 [dv, iv] ∧ RdA wx (fun k => wK.heap.size ≤ k ∧ k < wx.heap.size ∧ k ≠ b) (.agg #[dv, iv]) x8) ∧ (∀ b, gh = some b → b < wx.heap.size)) [4, 5] (by kernel_rfl) (by kernel_rfl) (by kernel_rfl) (by kernel_rfl) (by kernel_rfl) ?_ ?_ (fun gh n w w' hb h => ⟨h.1, fun e => (h.2.1 e).imp fun b hv => ⟨hv.1, hv.2.1, hv.2.2.grow hb⟩, fun e => (h.2.2.1 e).imp fun b hv => hv.imp fun dv hv => hv.imp fun iv hv => ⟨hv.1, hv.2.1, hv.2.2.1.grow hb, okGA.old hv.2.2.2 hb fun k hk hl => ⟨hk.1, Nat.lt_of_lt_of_le hl hb.size, hk.2.2⟩⟩, fun b e => Nat.lt_of_lt_of_le (h.2.2.2 b e) hb.size⟩) (none) (⟨fun _ => rfl, fun h => absurd h (by decide), fun h => absurd h (by decide), fun b h => by cases h⟩) ?_ ?_
      · first | exact Nat.le_refl _ | assumption | omega
      · intro gh
        repeat (first | exact trivial | refine ⟨mCk _, ?_⟩ | refine ⟨mTk, ?_⟩ | refine ⟨mEk _ (by first | exact mTup _ | exact mRgh okGA _ _ _ | exact mRgh okGI _ _ _ | exact mRgh okGTA _ _ _ | exact mRgh okGTI _ _ _ | exact mRgh (okGo okBB) _ _ _ | exact mRgh (okGo okB) _ _ _ | exact mC _ | exact mT | exact mR okB _ | exact mR okBB _ | exact mR okBBB _ | exact mRn okB _ _ | exact mRn okBB _ _ | exact mOw _ _ _ _ | exact mRm okB _ _ _ | exact mRa _ _ | exact mRg okROW _ _ | exact mRg okROWS _ _ | exact mRf okDISKS _ _ | exact mRg okCELL _ _ | exact mRg okBB _ _ | exact mRg okB _ _ | exact mRg okIs _ _ | exact mRi _ _), ?_⟩ | refine ⟨mFk _ (by first | exact mTup _ | exact mRgh okGA _ _ _ | exact mRgh okGI _ _ _ | exact mRgh okGTA _ _ _ | exact mRgh okGTI _ _ _ | exact mRgh (okGo okBB) _ _ _ | exact mRgh (okGo okB) _ _ _ | exact mC _ | exact mT | exact mR okB _ | exact mR okBB _ | exact mR okBBB _ | exact mRn okB _ _ | exact mRn okBB _ _ | exact mOw _ _ _ _ | exact mRm okB _ _ _ | exact mRa _ _ | exact mRg okROW _ _ | exact mRg okROWS _ _ | exact mRf okDISKS _ _ | exact mRg okCELL _ _ | exact mRg okBB _ _ | exact mRg okB _ _ | exact mRg okIs _ _ | exact mRi _ _), ?_⟩ | refine ⟨fun _ => (by first | exact mTup _ | exact mRgh okGA _ _ _ | exact mRgh okGI _ _ _ | exact mRgh okGTA _ _ _ | exact mRgh okGTI _ _ _ | exact mRgh (okGo okBB) _ _ _ | exact mRgh (okGo okB) _ _ _ | exact mC _ | exact mT | exact mR okB _ | exact mR okBB _ | exact mR okBBB _ | exact mRn okB _ _ | exact mRn okBB _ _ | exact mOw _ _ _ _ | exact mRm okB _ _ _ | exact mRa _ _ | exact mRg okROW _ _ | exact mRg okROWS _ _ | exact mRf okDISKS _ _ | exact mRg okCELL _ _ | exact mRg okBB _ _ | exact mRg okB _ _ | exact mRg okIs _ _ | exact mRi _ _), ?_⟩ | refine ⟨mEk2 _ (by first | exact mTup _ | exact mRgh okGA _ _ _ | exact mRgh okGI _ _ _ | exact mRgh okGTA _ _ _ | exact mRgh okGTI _ _ _ | exact mRgh (okGo okBB) _ _ _ | exact mRgh (okGo okB) _ _ _ | exact mC _ | exact mT | exact mR okB _ | exact mR okBB _ | exact mR okBBB _ | exact mRn okB _ _ | exact mRn okBB _ _ | exact mOw _ _ _ _ | exact mRm okB _ _ _ | exact mRa _ _ | exact mRg okROW _ _ | exact mRg okROWS _ _ | exact mRf okDISKS _ _ | exact mRg okCELL _ _ | exact mRg okBB _ _ | exact mRg okB _ _ | exact mRg okIs _ _ | exact mRi _ _) (by first | exact mTup _ | exact mRgh okGA _ _ _ | exact mRgh okGI _ _ _ | exact mRgh okGTA _ _ _ | exact mRgh okGTI _ _ _ | exact mRgh (okGo okBB) _ _ _ | exact mRgh (okGo okB) _ _ _ | exact mC _ | exact mT | exact mR okB _ | exact mR okBB _ | exact mR okBBB _ | exact mRn okB _ _ | exact mRn okBB _ _ | exact mOw _ _ _ _ | exact mRm okB _ _ _ | exact mRa _ _ | exact mRg okROW _ _ | exact mRg okROWS _ _ | exact mRf okDISKS _ _ | exact mRg okCELL _ _ | exact mRg okBB _ _ | exact mRg okB _ _ | exact mRg okIs _ _ | exact mRi _ _), ?_⟩)
      · simp only [StepsL3G]
        refine ⟨?_, ?_, ?_, ?_, ?_, ?_, trivial⟩
        · refine @id (StepGG _ _ _ _ _ _ _ _ _ _ _) ?_
          intro gh nst ys wx hn hmay hw hS hd
          rcases (may_two hmay hn (by kernel_rfl) : nst = 0 ∨ nst = 1) with rfl | rfl
          · intro K hK
            simp only [putL, Act.put, List.setIfInBounds_toArray, List.set_cons_zero, List.set_cons_succ, Nat.zero_add, Nat.reduceAdd] at hK ⊢
            rw [if_pos (by rfl)]
            go_simp
            refine (array_New _).mono ?_
            rintro e w' ⟨v', rfl, hv', hb'⟩
            exact hK _ _ hb' (rgh_new okGA hv' (fun h => h.lt) hw.size hS.2.2.2)
          · intro K hK
            simp only [putL, Act.put, List.setIfInBounds_toArray, List.set_cons_zero, List.set_cons_succ, Nat.zero_add, Nat.reduceAdd] at hK ⊢
            rw [if_pos (by rfl)]
            go_simp
            refine (array_New _).mono ?_
            rintro e w' ⟨v', rfl, hv', hb'⟩
            exact hK _ _ hb' (rgh_new okGA hv' (fun h => h.lt) hw.size hS.2.2.2)
        · refine @id (StepGG _ _ _ _ _ _ _ _ _ _ _) ?_
          intro gh nst ys wx hn hmay hw hS hd
          intro K hK
          simp only [putL, Act.put, List.setIfInBounds_toArray, List.set_cons_zero, List.set_cons_succ, Nat.zero_add, Nat.reduceAdd] at hK ⊢
          rw [if_pos (by rfl)]
          obtain ⟨k0, k1, k2, k3⟩ := (HBI.out.keep hw HBI.out.lt).two
          go_simp
          exact hK _ _ (Below.refl _ _) rfl
        · refine @id (StepGG _ _ _ _ _ _ _ _ _ _ _) ?_
          intro gh nst ys wx hn hmay hw hS hd
          rcases (may_two hmay hn (by kernel_rfl) : nst = 0 ∨ nst = 1) with rfl | rfl
          · intro K hK
            have k0 := hd 0 (by decide)
            change (Rgh RdA wK.heap.size gh newA) wx (ys 0) at k0
            have e1 : ys 1 = _ := hd 1 (by decide)
            simp only [putL, Act.put, List.setIfInBounds_toArray, List.set_cons_zero, List.set_cons_succ, Nat.zero_add, Nat.reduceAdd, e1] at hK ⊢
            rw [if_pos (by rfl)]
            have k0' : RdA wx (fun k => wK.heap.size ≤ k ∧ k < wx.heap.size ∧ some k ≠ gh) (ys 0) newA := k0
            obtain ⟨b0, o0, c0, A0, ci, hy, _, _, _, _⟩ := RdA_open k0' good_new.1.shape
            rw [hy] at k0'
            simp only [hy] at hK ⊢
            clear k0 hy
            go_simp
            refine (array_Write newA i8 2 _ _ _ _ k0' ⟨_, rfl, okBB.below HRI.out hw fun _ _ hl => hl⟩ good_new.1.shape (.inl rfl) i8_ok (by decide) (by decide)).mono ?_
            rintro e w' ⟨v', rfl, hv', hb'⟩
            exact hK _ _ hb' (rgh_new okGA hv' (fun h => h.lt) hw.size hS.2.2.2)
          · intro K hK
            have k0 := hd 0 (by decide)
            change (Rgh RdA wK.heap.size gh newA) wx (ys 0) at k0
            have e1 : ys 1 = _ := hd 1 (by decide)
            simp only [putL, Act.put, List.setIfInBounds_toArray, List.set_cons_zero, List.set_cons_succ, Nat.zero_add, Nat.reduceAdd, e1] at hK ⊢
            rw [if_pos (by rfl)]
            have k0' : RdA wx (fun k => wK.heap.size ≤ k ∧ k < wx.heap.size ∧ some k ≠ gh) (ys 0) newA := k0
            obtain ⟨b0, o0, c0, A0, ci, hy, _, _, _, _⟩ := RdA_open k0' good_new.1.shape
            rw [hy] at k0'
            simp only [hy] at hK ⊢
            clear k0 hy
            go_simp
            refine (array_Write newA i8 2 _ _ _ _ k0' ⟨_, rfl, okBB.below HRI.out hw fun _ _ hl => hl⟩ good_new.1.shape (.inl rfl) i8_ok (by decide) (by decide)).mono ?_
            rintro e w' ⟨v', rfl, hv', hb'⟩
            exact hK _ _ hb' (rgh_new okGA hv' (fun h => h.lt) hw.size hS.2.2.2)
        · refine @id (StepGG _ _ _ _ _ _ _ _ _ _ _) ?_
          intro gh nst ys wx hn hmay hw hS hd
          rcases (may_two hmay hn (by kernel_rfl) : nst = 0 ∨ nst = 1) with rfl | rfl
          · intro K hK
            have k2 := hd 2 (by decide)
            change (Rgh RdA wK.heap.size gh (writeA newA i8 2)) wx (ys 2) at k2
            simp only [putL, Act.put, List.setIfInBounds_toArray, List.set_cons_zero, List.set_cons_succ, Nat.zero_add, Nat.reduceAdd] at hK ⊢
            rw [if_pos (by rfl)]
            have k2' : RdA wx (fun k => wK.heap.size ≤ k ∧ k < wx.heap.size ∧ some k ≠ gh) (ys 2) (writeA newA i8 2) := k2
            obtain ⟨b0, o0, c0, A0, ci, hy, _, _, _, _⟩ := RdA_open k2' w2_shape
            rw [hy] at k2'
            simp only [hy] at hK ⊢
            clear k2 hy
            go_simp
            refine (array_Mount (writeA newA i8 2) _ _ _ k2' w2_shape w2_ints).mono ?_
            rintro e w' ⟨v', rfl, hv', hb'⟩
            exact hK _ _ hb' (rgh_new okGA hv' (fun h => h.lt) hw.size hS.2.2.2)
          · intro K hK
            have k2 := hd 2 (by decide)
            change (Rgh RdA wK.heap.size gh (writeA newA i8 2)) wx (ys 2) at k2
            simp only [putL, Act.put, List.setIfInBounds_toArray, List.set_cons_zero, List.set_cons_succ, Nat.zero_add, Nat.reduceAdd] at hK ⊢
            rw [if_pos (by rfl)]
            have k2' : RdA wx (fun k => wK.heap.size ≤ k ∧ k < wx.heap.size ∧ some k ≠ gh) (ys 2) (writeA newA i8 2) := k2
            obtain ⟨b0, o0, c0, A0, ci, hy, _, _, _, _⟩ := RdA_open k2' w2_shape
            rw [hy] at k2'
            simp only [hy] at hK ⊢
            clear k2 hy
            go_simp
            refine (array_Mount (writeA newA i8 2) _ _ _ k2' w2_shape w2_ints).mono ?_
            rintro e w' ⟨v', rfl, hv', hb'⟩
            exact hK _ _ hb' (rgh_new okGA hv' (fun h => h.lt) hw.size hS.2.2.2)
        · refine @id (StepSG _ _ _ _ _ _ _ _ _ _ _) ?_
          intro gh ys wx hw hS hd K hK
          simp only [putL, Act.put, List.setIfInBounds_toArray, List.set_cons_zero, List.set_cons_succ, Nat.zero_add, Nat.reduceAdd] at hK ⊢
          rw [if_pos (by rfl)]
          have hgh : gh = none := hS.1 rfl
          subst hgh
          have hbs := below_alloc wx (.cells #[.slice none 0 0, .slice none 0 0] 30)
          have hbx := boxAt_new wx 30 [.slice none 0 0, .slice none 0 0]
          have hlt : wx.heap.size < (wx.alloc (.cells #[.slice none 0 0, .slice none 0 0] 30)).heap.size := by rw [alloc_size]; exact Nat.lt_succ_self _
          go_simp
          exact hK _ _ (some wx.heap.size) (hbs.mono hw.size) ⟨fun h => absurd h (by decide), fun _ => ⟨_, rfl, hw.size, hbx⟩, fun h => absurd h (by decide), fun b e => by injection e with e; omega⟩ rfl ⟨fun u hu => (by first | exact rgh_alloc okGA hu hbs | exact rgh_alloc okGI hu hbs | exact rgh_alloc okGTA hu hbs | exact rgh_alloc okGTI hu hbs | exact rgh_alloc (okGo okBB) hu hbs | exact rgh_alloc (okGo okB) hu hbs), fun _ h => h, fun u hu => (by first | exact rgh_alloc okGA hu hbs | exact rgh_alloc okGI hu hbs | exact rgh_alloc okGTA hu hbs | exact rgh_alloc okGTI hu hbs | exact rgh_alloc (okGo okBB) hu hbs | exact rgh_alloc (okGo okB) hu hbs), fun u hu => (by first | exact rgh_alloc okGA hu hbs | exact rgh_alloc okGI hu hbs | exact rgh_alloc okGTA hu hbs | exact rgh_alloc okGTI hu hbs | exact rgh_alloc (okGo okBB) hu hbs | exact rgh_alloc (okGo okB) hu hbs), fun _ h => h.elim, fun _ h => h, trivial⟩
        · refine @id (StepSG _ _ _ _ _ _ _ _ _ _ _) ?_
          intro gh ys wx hw hS hd K hK
          have k3 := hd 3 (by decide)
          change (Rgh RdA wK.heap.size gh x8) wx (ys 3) at k3
          have e4 : ys 4 = _ := hd 4 (by decide)
          simp only [putL, Act.put, List.setIfInBounds_toArray, List.set_cons_zero, List.set_cons_succ, Nat.zero_add, Nat.reduceAdd, e4] at hK ⊢
          rw [if_pos (by rfl)]
          obtain ⟨b, rfl, hbb, hbx⟩ := hS.2.1 rfl
          have k3' : RdA wx (fun k => wK.heap.size ≤ k ∧ k < wx.heap.size ∧ some k ≠ some b) (ys 3) x8 := k3
          obtain ⟨b0, o0, c0, A0, ci, hy, _, _, _, _⟩ := RdA_open k3' x8_shape
          rw [hy] at k3'
          simp only [hy, Option.map_some] at hK ⊢
          clear k3 hy
          obtain ⟨q0, q1, q2, q3⟩ := hbx.two
          have hput := hbx.put2 (v0 := .slice (some ⟨b0, o0, none⟩) 4 c0) (v1 := .slice A0 x8.ints.length ci)
          have hrd := k3'.set2 (b := b) (v0 := .slice (some ⟨b0, o0, none⟩) 4 c0) (v1 := .slice A0 x8.ints.length ci) (fun k hk e => hk.2.2 (by rw [e]))
          have hbs := below_set2 (w := wx) (B := wK.heap.size) (b := b) (v0 := .slice (some ⟨b0, o0, none⟩) 4 c0) (v1 := .slice A0 x8.ints.length ci) hbb
          have hlt := hbx.lt
          have hss : (set2 wx b (.slice (some ⟨b0, o0, none⟩) 4 c0) (.slice A0 x8.ints.length ci)).heap.size = wx.heap.size := set2_size
          go_simp
          exact hK undef _ (some b) hbs ⟨fun h => absurd h (by decide), fun h => absurd h (by decide), fun _ => ⟨b, _, _, rfl, hbb, hput, hrd.mono fun k hk => ⟨hk.1, Nat.lt_of_lt_of_eq hk.2.1 hss.symm, fun e => hk.2.2 (by rw [e])⟩⟩, fun b' e => by injection e with e; subst e; exact Nat.lt_of_lt_of_eq hlt hss.symm⟩ trivial ⟨fun _ _ => trivial, fun _ h => h, fun _ _ => trivial, fun _ _ => trivial, fun _ h => h, fun _ h => h, trivial⟩
      · intro gh ys w' hl' hS' hV
        have e4 : ys 4 = _ := hV 4 (by decide)
        clear hV
        simp only [putL, Act.put, List.setIfInBounds_toArray, List.set_cons_zero, List.set_cons_succ, Nat.zero_add, Nat.reduceAdd, e4]
        clear e4
    
        obtain ⟨pX, dvX, ivX, rfl, hpX, hbx, hrd⟩ := hS'.2.2.1 rfl
        obtain ⟨bX, oX, cX, AX, dX, hag, _, _, hcX, hmX⟩ := RdA_open hrd x8_shape
        injection hag with hag
        simp only [Array.mk.injEq, List.cons.injEq, and_true] at hag
        obtain ⟨rfl, rfl⟩ := hag
        simp only [Option.map_some]
        rename World => wX
        replace HBxA := Lib.hid (HBxA.out.grow hl')
        replace HRdA := Lib.hid (HRdA.out.grow hl')
        replace HBel := Lib.hid (HBel.out.trans (hl'.mono HBel.out.size))
        replace HBd := Lib.hid (HBd.out.grow hl')
        replace HDd := Lib.hid (okB.grow HDd.out hl')
        replace HBI := Lib.hid (HBI.out.grow hl')
        replace HRI := Lib.hid (okBB.grow HRI.out hl')
        replace HR := Lib.hid (okB.grow HR.out hl')
        clear pA0 pA1 pA2 pA3
        have HBxX := Lib.hid hbx
        have HRdX := Lib.hid hrd
        clear hbx hrd hS' hl'
        obtain ⟨pA0, pA1, pA2, pA3⟩ := HBxA.out.two
        obtain ⟨pX0, pX1, pX2, pX3⟩ := HBxX.out.two
        go_wp2_with fail
        refine region_ghost (wX.heap.size) (fun gh => [Ek 1 (Rgh RdA wX.heap.size gh newA), Ck (.agg #[.int .i64 i8.1, .slice AI 4 cI]), Ek 1 (Rgh RdA wX.heap.size gh (writeA newA i8 0)), Ek 1 (Rgh RdA wX.heap.size gh y8), Fk 1 (Cv (.pointer (gh.map fun b => ⟨b, 0, none⟩))), Tk]) (fun gh n wx => (n = 0 → gh = none) ∧ (n = 1 → ∃ b, gh = some b ∧ wX.heap.size ≤ b ∧ BoxAt wx b 30 [.slice none 0 0, .slice none 0 0]) ∧ (n = 2 → ∃ b dv iv, gh = some b ∧ wX.heap.size ≤ b ∧ BoxAt wx b 30 [dv, iv] ∧ RdA wx (fun k => wX.heap.size ≤ k ∧ k < wx.heap.size ∧ k ≠ b) (.agg #[dv, iv]) y8) ∧ (∀ b, gh = some b → b < wx.heap.size)) [4, 5] (by kernel_rfl) (by kernel_rfl) (by kernel_rfl) (by kernel_rfl) (by kernel_rfl) ?_ ?_ (fun gh n w w' hb h => ⟨h.1, fun e => (h.2.1 e).imp fun b hv => ⟨hv.1, hv.2.1, hv.2.2.grow hb⟩, fun e => (h.2.2.1 e).imp fun b hv => hv.imp fun dv hv => hv.imp fun iv hv => ⟨hv.1, hv.2.1, hv.2.2.1.grow hb, okGA.old hv.2.2.2 hb fun k hk hl => ⟨hk.1, Nat.lt_of_lt_of_le hl hb.size, hk.2.2⟩⟩, fun b e => Nat.lt_of_lt_of_le (h.2.2.2 b e) hb.size⟩) (none) (⟨fun _ => rfl, fun h => absurd h (by decide), fun h => absurd h (by decide), fun b h => by cases h⟩) ?_ ?_
        · first | exact Nat.le_refl _ | assumption | omega
        · intro gh
          repeat (first | exact trivial | refine ⟨mCk _, ?_⟩ | refine ⟨mTk, ?_⟩ | refine ⟨mEk _ (by first | exact mTup _ | exact mRgh okGA _ _ _ | exact mRgh okGI _ _ _ | exact mRgh okGTA _ _ _ | exact mRgh okGTI _ _ _ | exact mRgh (okGo okBB) _ _ _ | exact mRgh (okGo okB) _ _ _ | exact mC _ | exact mT | exact mR okB _ | exact mR okBB _ | exact mR okBBB _ | exact mRn okB _ _ | exact mRn okBB _ _ | exact mOw _ _ _ _ | exact mRm okB _ _ _ | exact mRa _ _ | exact mRg okROW _ _ | exact mRg okROWS _ _ | exact mRf okDISKS _ _ | exact mRg okCELL _ _ | exact mRg okBB _ _ | exact mRg okB _ _ | exact mRg okIs _ _ | exact mRi _ _), ?_⟩ | refine ⟨mFk _ (by first | exact mTup _ | exact mRgh okGA _ _ _ | exact mRgh okGI _ _ _ | exact mRgh okGTA _ _ _ | exact mRgh okGTI _ _ _ | exact mRgh (okGo okBB) _ _ _ | exact mRgh (okGo okB) _ _ _ | exact mC _ | exact mT | exact mR okB _ | exact mR okBB _ | exact mR okBBB _ | exact mRn okB _ _ | exact mRn okBB _ _ | exact mOw _ _ _ _ | exact mRm okB _ _ _ | exact mRa _ _ | exact mRg okROW _ _ | exact mRg okROWS _ _ | exact mRf okDISKS _ _ | exact mRg okCELL _ _ | exact mRg okBB _ _ | exact mRg okB _ _ | exact mRg okIs _ _ | exact mRi _ _), ?_⟩ | refine ⟨fun _ => (by first | exact mTup _ | exact mRgh okGA _ _ _ | exact mRgh okGI _ _ _ | exact mRgh okGTA _ _ _ | exact mRgh okGTI _ _ _ | exact mRgh (okGo okBB) _ _ _ | exact mRgh (okGo okB) _ _ _ | exact mC _ | exact mT | exact mR okB _ | exact mR okBB _ | exact mR okBBB _ | exact mRn okB _ _ | exact mRn okBB _ _ | exact mOw _ _ _ _ | exact mRm okB _ _ _ | exact mRa _ _ | exact mRg okROW _ _ | exact mRg okROWS _ _ | exact mRf okDISKS _ _ | exact mRg okCELL _ _ | exact mRg okBB _ _ | exact mRg okB _ _ | exact mRg okIs _ _ | exact mRi _ _), ?_⟩ | refine ⟨mEk2 _ (by first | exact mTup _ | exact mRgh okGA _ _ _ | exact mRgh okGI _ _ _ | exact mRgh okGTA _ _ _ | exact mRgh okGTI _ _ _ | exact mRgh (okGo okBB) _ _ _ | exact mRgh (okGo okB) _ _ _ | exact mC _ | exact mT | exact mR okB _ | exact mR okBB _ | exact mR okBBB _ | exact mRn okB _ _ | exact mRn okBB _ _ | exact mOw _ _ _ _ | exact mRm okB _ _ _ | exact mRa _ _ | exact mRg okROW _ _ | exact mRg okROWS _ _ | exact mRf okDISKS _ _ | exact mRg okCELL _ _ | exact mRg okBB _ _ | exact mRg okB _ _ | exact mRg okIs _ _ | exact mRi _ _) (by first | exact mTup _ | exact mRgh okGA _ _ _ | exact mRgh okGI _ _ _ | exact mRgh okGTA _ _ _ | exact mRgh okGTI _ _ _ | exact mRgh (okGo okBB) _ _ _ | exact mRgh (okGo okB) _ _ _ | exact mC _ | exact mT | exact mR okB _ | exact mR okBB _ | exact mR okBBB _ | exact mRn okB _ _ | exact mRn okBB _ _ | exact mOw _ _ _ _ | exact mRm okB _ _ _ | exact mRa _ _ | exact mRg okROW _ _ | exact mRg okROWS _ _ | exact mRf okDISKS _ _ | exact mRg okCELL _ _ | exact mRg okBB _ _ | exact mRg okB _ _ | exact mRg okIs _ _ | exact mRi _ _), ?_⟩)
        · simp only [StepsL3G]
          refine ⟨?_, ?_, ?_, ?_, ?_, ?_, trivial⟩
          · refine @id (StepGG _ _ _ _ _ _ _ _ _ _ _) ?_
            intro gh nst ys wx hn hmay hw hS hd
            rcases (may_two hmay hn (by kernel_rfl) : nst = 0 ∨ nst = 1) with rfl | rfl
            · intro K hK
              simp only [putL, Act.put, List.setIfInBounds_toArray, List.set_cons_zero, List.set_cons_succ, Nat.zero_add, Nat.reduceAdd] at hK ⊢
              rw [if_pos (by rfl)]
              go_simp
              refine (array_New _).mono ?_
              rintro e w' ⟨v', rfl, hv', hb'⟩
              exact hK _ _ hb' (rgh_new okGA hv' (fun h => h.lt) hw.size hS.2.2.2)
            · intro K hK
              simp only [putL, Act.put, List.setIfInBounds_toArray, List.set_cons_zero, List.set_cons_succ, Nat.zero_add, Nat.reduceAdd] at hK ⊢
              rw [if_pos (by rfl)]
              go_simp
              refine (array_New _).mono ?_
              rintro e w' ⟨v', rfl, hv', hb'⟩
              exact hK _ _ hb' (rgh_new okGA hv' (fun h => h.lt) hw.size hS.2.2.2)
          · refine @id (StepGG _ _ _ _ _ _ _ _ _ _ _) ?_
            intro gh nst ys wx hn hmay hw hS hd
            intro K hK
            simp only [putL, Act.put, List.setIfInBounds_toArray, List.set_cons_zero, List.set_cons_succ, Nat.zero_add, Nat.reduceAdd] at hK ⊢
            rw [if_pos (by rfl)]
            obtain ⟨k0, k1, k2, k3⟩ := (HBI.out.keep hw HBI.out.lt).two
            go_simp
            exact hK _ _ (Below.refl _ _) rfl
          · refine @id (StepGG _ _ _ _ _ _ _ _ _ _ _) ?_
            intro gh nst ys wx hn hmay hw hS hd
            rcases (may_two hmay hn (by kernel_rfl) : nst = 0 ∨ nst = 1) with rfl | rfl
            · intro K hK
              have k0 := hd 0 (by decide)
              change (Rgh RdA wX.heap.size gh newA) wx (ys 0) at k0
              have e1 : ys 1 = _ := hd 1 (by decide)
              simp only [putL, Act.put, List.setIfInBounds_toArray, List.set_cons_zero, List.set_cons_succ, Nat.zero_add, Nat.reduceAdd, e1] at hK ⊢
              rw [if_pos (by rfl)]
              have k0' : RdA wx (fun k => wX.heap.size ≤ k ∧ k < wx.heap.size ∧ some k ≠ gh) (ys 0) newA := k0
              obtain ⟨b0, o0, c0, A0, ci, hy, _, _, _, _⟩ := RdA_open k0' good_new.1.shape
              rw [hy] at k0'
              simp only [hy] at hK ⊢
              clear k0 hy
              go_simp
              refine (array_Write newA i8 0 _ _ _ _ k0' ⟨_, rfl, okBB.below HRI.out hw fun _ _ hl => hl⟩ good_new.1.shape (.inl rfl) i8_ok (by decide) (by decide)).mono ?_
              rintro e w' ⟨v', rfl, hv', hb'⟩
              exact hK _ _ hb' (rgh_new okGA hv' (fun h => h.lt) hw.size hS.2.2.2)
            · intro K hK
              have k0 := hd 0 (by decide)
              change (Rgh RdA wX.heap.size gh newA) wx (ys 0) at k0
              have e1 : ys 1 = _ := hd 1 (by decide)
              simp only [putL, Act.put, List.setIfInBounds_toArray, List.set_cons_zero, List.set_cons_succ, Nat.zero_add, Nat.reduceAdd, e1] at hK ⊢
              rw [if_pos (by rfl)]
              have k0' : RdA wx (fun k => wX.heap.size ≤ k ∧ k < wx.heap.size ∧ some k ≠ gh) (ys 0) newA := k0
              obtain ⟨b0, o0, c0, A0, ci, hy, _, _, _, _⟩ := RdA_open k0' good_new.1.shape
              rw [hy] at k0'
              simp only [hy] at hK ⊢
              clear k0 hy
              go_simp
              refine (array_Write newA i8 0 _ _ _ _ k0' ⟨_, rfl, okBB.below HRI.out hw fun _ _ hl => hl⟩ good_new.1.shape (.inl rfl) i8_ok (by decide) (by decide)).mono ?_
              rintro e w' ⟨v', rfl, hv', hb'⟩
              exact hK _ _ hb' (rgh_new okGA hv' (fun h => h.lt) hw.size hS.2.2.2)
          · refine @id (StepGG _ _ _ _ _ _ _ _ _ _ _) ?_
            intro gh nst ys wx hn hmay hw hS hd
            rcases (may_two hmay hn (by kernel_rfl) : nst = 0 ∨ nst = 1) with rfl | rfl
            · intro K hK
              have k2 := hd 2 (by decide)
              change (Rgh RdA wX.heap.size gh (writeA newA i8 0)) wx (ys 2) at k2
              simp only [putL, Act.put, List.setIfInBounds_toArray, List.set_cons_zero, List.set_cons_succ, Nat.zero_add, Nat.reduceAdd] at hK ⊢
              rw [if_pos (by rfl)]
              have k2' : RdA wx (fun k => wX.heap.size ≤ k ∧ k < wx.heap.size ∧ some k ≠ gh) (ys 2) (writeA newA i8 0) := k2
              obtain ⟨b0, o0, c0, A0, ci, hy, _, _, _, _⟩ := RdA_open k2' w0_shape
              rw [hy] at k2'
              simp only [hy] at hK ⊢
              clear k2 hy
              go_simp
              refine (array_Mount (writeA newA i8 0) _ _ _ k2' w0_shape w0_ints).mono ?_
              rintro e w' ⟨v', rfl, hv', hb'⟩
              exact hK _ _ hb' (rgh_new okGA hv' (fun h => h.lt) hw.size hS.2.2.2)
            · intro K hK
              have k2 := hd 2 (by decide)
              change (Rgh RdA wX.heap.size gh (writeA newA i8 0)) wx (ys 2) at k2
              simp only [putL, Act.put, List.setIfInBounds_toArray, List.set_cons_zero, List.set_cons_succ, Nat.zero_add, Nat.reduceAdd] at hK ⊢
              rw [if_pos (by rfl)]
              have k2' : RdA wx (fun k => wX.heap.size ≤ k ∧ k < wx.heap.size ∧ some k ≠ gh) (ys 2) (writeA newA i8 0) := k2
              obtain ⟨b0, o0, c0, A0, ci, hy, _, _, _, _⟩ := RdA_open k2' w0_shape
              rw [hy] at k2'
              simp only [hy] at hK ⊢
              clear k2 hy
              go_simp
              refine (array_Mount (writeA newA i8 0) _ _ _ k2' w0_shape w0_ints).mono ?_
              rintro e w' ⟨v', rfl, hv', hb'⟩
              exact hK _ _ hb' (rgh_new okGA hv' (fun h => h.lt) hw.size hS.2.2.2)
          · refine @id (StepSG _ _ _ _ _ _ _ _ _ _ _) ?_
            intro gh ys wx hw hS hd K hK
            simp only [putL, Act.put, List.setIfInBounds_toArray, List.set_cons_zero, List.set_cons_succ, Nat.zero_add, Nat.reduceAdd] at hK ⊢
            rw [if_pos (by rfl)]
            have hgh : gh = none := hS.1 rfl
            subst hgh
            have hbs := below_alloc wx (.cells #[.slice none 0 0, .slice none 0 0] 30)
            have hbx := boxAt_new wx 30 [.slice none 0 0, .slice none 0 0]
            have hlt : wx.heap.size < (wx.alloc (.cells #[.slice none 0 0, .slice none 0 0] 30)).heap.size := by rw [alloc_size]; exact Nat.lt_succ_self _
            go_simp
            exact hK _ _ (some wx.heap.size) (hbs.mono hw.size) ⟨fun h => absurd h (by decide), fun _ => ⟨_, rfl, hw.size, hbx⟩, fun h => absurd h (by decide), fun b e => by injection e with e; omega⟩ rfl ⟨fun u hu => (by first | exact rgh_alloc okGA hu hbs | exact rgh_alloc okGI hu hbs | exact rgh_alloc okGTA hu hbs | exact rgh_alloc okGTI hu hbs | exact rgh_alloc (okGo okBB) hu hbs | exact rgh_alloc (okGo okB) hu hbs), fun _ h => h, fun u hu => (by first | exact rgh_alloc okGA hu hbs | exact rgh_alloc okGI hu hbs | exact rgh_alloc okGTA hu hbs | exact rgh_alloc okGTI hu hbs | exact rgh_alloc (okGo okBB) hu hbs | exact rgh_alloc (okGo okB) hu hbs), fun u hu => (by first | exact rgh_alloc okGA hu hbs | exact rgh_alloc okGI hu hbs | exact rgh_alloc okGTA hu hbs | exact rgh_alloc okGTI hu hbs | exact rgh_alloc (okGo okBB) hu hbs | exact rgh_alloc (okGo okB) hu hbs), fun _ h => h.elim, fun _ h => h, trivial⟩
          · refine @id (StepSG _ _ _ _ _ _ _ _ _ _ _) ?_
            intro gh ys wx hw hS hd K hK
            have k3 := hd 3 (by decide)
            change (Rgh RdA wX.heap.size gh y8) wx (ys 3) at k3
            have e4 : ys 4 = _ := hd 4 (by decide)
            simp only [putL, Act.put, List.setIfInBounds_toArray, List.set_cons_zero, List.set_cons_succ, Nat.zero_add, Nat.reduceAdd, e4] at hK ⊢
            rw [if_pos (by rfl)]
            obtain ⟨b, rfl, hbb, hbx⟩ := hS.2.1 rfl
            have k3' : RdA wx (fun k => wX.heap.size ≤ k ∧ k < wx.heap.size ∧ some k ≠ some b) (ys 3) y8 := k3
            obtain ⟨b0, o0, c0, A0, ci, hy, _, _, _, _⟩ := RdA_open k3' y8_shape
            rw [hy] at k3'
            simp only [hy, Option.map_some] at hK ⊢
            clear k3 hy
            obtain ⟨q0, q1, q2, q3⟩ := hbx.two
            have hput := hbx.put2 (v0 := .slice (some ⟨b0, o0, none⟩) 4 c0) (v1 := .slice A0 y8.ints.length ci)
            have hrd := k3'.set2 (b := b) (v0 := .slice (some ⟨b0, o0, none⟩) 4 c0) (v1 := .slice A0 y8.ints.length ci) (fun k hk e => hk.2.2 (by rw [e]))
            have hbs := below_set2 (w := wx) (B := wX.heap.size) (b := b) (v0 := .slice (some ⟨b0, o0, none⟩) 4 c0) (v1 := .slice A0 y8.ints.length ci) hbb
            have hlt := hbx.lt
            have hss : (set2 wx b (.slice (some ⟨b0, o0, none⟩) 4 c0) (.slice A0 y8.ints.length ci)).heap.size = wx.heap.size := set2_size
            go_simp
            exact hK undef _ (some b) hbs ⟨fun h => absurd h (by decide), fun h => absurd h (by decide), fun _ => ⟨b, _, _, rfl, hbb, hput, hrd.mono fun k hk => ⟨hk.1, Nat.lt_of_lt_of_eq hk.2.1 hss.symm, fun e => hk.2.2 (by rw [e])⟩⟩, fun b' e => by injection e with e; subst e; exact Nat.lt_of_lt_of_eq hlt hss.symm⟩ trivial ⟨fun _ _ => trivial, fun _ h => h, fun _ _ => trivial, fun _ _ => trivial, fun _ h => h, fun _ h => h, trivial⟩
        · intro gh ys w' hl' hS' hV
          have e4 : ys 4 = _ := hV 4 (by decide)
          clear hV
          simp only [putL, Act.put, List.setIfInBounds_toArray, List.set_cons_zero, List.set_cons_succ, Nat.zero_add, Nat.reduceAdd, e4]
          clear e4
      
          obtain ⟨pY, dvY, ivY, rfl, hpY, hbx, hrd⟩ := hS'.2.2.1 rfl
          obtain ⟨bY, oY, cY, AY, dY, hag, _, _, hcY, hmY⟩ := RdA_open hrd y8_shape
          injection hag with hag
          simp only [Array.mk.injEq, List.cons.injEq, and_true] at hag
          obtain ⟨rfl, rfl⟩ := hag
          simp only [Option.map_some]
          rename World => wY
          replace HBxA := Lib.hid (HBxA.out.grow hl')
          replace HBxX := Lib.hid (HBxX.out.grow hl')
          replace HRdA := Lib.hid (HRdA.out.grow hl')
          replace HRdX := Lib.hid (HRdX.out.grow hl')
          replace HBel := Lib.hid (HBel.out.trans (hl'.mono HBel.out.size))
          replace HBd := Lib.hid (HBd.out.grow hl')
          replace HDd := Lib.hid (okB.grow HDd.out hl')
          replace HBI := Lib.hid (HBI.out.grow hl')
          replace HRI := Lib.hid (okBB.grow HRI.out hl')
          replace HR := Lib.hid (okB.grow HR.out hl')
          clear pA0 pA1 pA2 pA3 pX0 pX1 pX2 pX3
          have HBxY := Lib.hid hbx
          have HRdY := Lib.hid hrd
          clear hbx hrd hS' hl'
          obtain ⟨pA0, pA1, pA2, pA3⟩ := HBxA.out.two
          obtain ⟨pX0, pX1, pX2, pX3⟩ := HBxX.out.two
          obtain ⟨pY0, pY1, pY2, pY3⟩ := HBxY.out.two
          go_wp2_with fail
          refine (array_Read x8 4 _ _ _ HRdX.out x8_shape).mono ?_
          rintro e wS ⟨vS, rfl, hr, hb⟩
          rw [f8_facts.2.2.2.2.2.1] at hr
          generalize (readA x8.disks 4).2 = ex at *
          replace HBxA := Lib.hid (HBxA.out.grow hb)
          replace HBxX := Lib.hid (HBxX.out.grow hb)
          replace HBxY := Lib.hid (HBxY.out.grow hb)
          replace HRdA := Lib.hid (HRdA.out.grow hb)
          replace HRdX := Lib.hid (HRdX.out.grow hb)
          replace HRdY := Lib.hid (HRdY.out.grow hb)
          replace HBel := Lib.hid (HBel.out.trans (hb.mono HBel.out.size))
          replace HBd := Lib.hid (HBd.out.grow hb)
          replace HDd := Lib.hid (okB.grow HDd.out hb)
          replace HBI := Lib.hid (HBI.out.grow hb)
          replace HRI := Lib.hid (okBB.grow HRI.out hb)
          replace HR := Lib.hid (okB.grow HR.out hb)
          clear pA0 pA1 pA2 pA3 pX0 pX1 pX2 pX3 pY0 pY1 pY2 pY3
          obtain ⟨AS, cS, rfl, _, _⟩ := hr.shape
          have HX := Lib.hid hr
          clear hr hb
          obtain ⟨pA0, pA1, pA2, pA3⟩ := HBxA.out.two
          obtain ⟨pX0, pX1, pX2, pX3⟩ := HBxX.out.two
          obtain ⟨pY0, pY1, pY2, pY3⟩ := HBxY.out.two
          go_wp2_with fail
          refine (array_Read y8 4 _ _ _ HRdY.out y8_shape).mono ?_
          rintro e wU ⟨vU, rfl, hr, hb⟩
          rw [f8_facts.2.2.2.2.2.2.1] at hr
          generalize (readA y8.disks 4).2 = ey at *
          replace HBxA := Lib.hid (HBxA.out.grow hb)
          replace HBxX := Lib.hid (HBxX.out.grow hb)
          replace HBxY := Lib.hid (HBxY.out.grow hb)
          replace HRdA := Lib.hid (HRdA.out.grow hb)
          replace HRdX := Lib.hid (HRdX.out.grow hb)
          replace HRdY := Lib.hid (HRdY.out.grow hb)
          replace HBel := Lib.hid (HBel.out.trans (hb.mono HBel.out.size))
          replace HBd := Lib.hid (HBd.out.grow hb)
          replace HDd := Lib.hid (okB.grow HDd.out hb)
          replace HBI := Lib.hid (HBI.out.grow hb)
          replace HRI := Lib.hid (okBB.grow HRI.out hb)
          replace HR := Lib.hid (okB.grow HR.out hb)
          replace HX := Lib.hid (okB.grow HX.out hb)
          clear pA0 pA1 pA2 pA3 pX0 pX1 pX2 pX3 pY0 pY1 pY2 pY3
          obtain ⟨bU, oU, cU, rfl, _, _, hcU, hmU⟩ := hr.form (by decide)
          rw [show ([0, 0, 0, 0] : Bs).length = 4 from rfl] at hr hcU ⊢
          obtain ⟨u0, hu0, hx0⟩ := RdL_q hr (k := 0) (x := 0) rfl
          obtain rfl : u0 = .int .u8 0 := hx0
          rw [Nat.add_zero] at hu0
          unfold maxLen at hmU
          have hc2 := run_conv HR.out Try.underlying23 Try.underlying5 Try.underlying9
          have hc3 := run_conv HX.out Try.underlying23 Try.underlying5 Try.underlying9
          have hst : (strB abcd8).toList = [97, 98, 99, 100] := strB_toList abcd8
          obtain ⟨z0, z1, z2, z3⟩ := HBI.out.two
          have ha4 : a8.disks.length = 4 := a8_shape.1
          clear hb hr
          obtain ⟨pA0, pA1, pA2, pA3⟩ := HBxA.out.two
          obtain ⟨pX0, pX1, pX2, pX3⟩ := HBxX.out.two
          obtain ⟨pY0, pY1, pY2, pY3⟩ := HBxY.out.two
          go_wp2_with fail
          refine (array_OwnR a8 _ _ _ HRdA.out a8_shape (.inl a8_ints)).mono ?_
          rintro e wO ⟨vO, rfl, hr, hb⟩
          obtain ⟨bO, oO, cO, AO, dO, rfl, _, _, _, _⟩ := RdA_open hr a8_shape
          have hfin := HBel.out.trans (hb.mono HBel.out.size)
          clear hr hb
          have hfd : ∀ w : World, (Instr.field 30 (.agg #[.slice (some ⟨bO, oO, none⟩) 4 cO, .slice AO a8.ints.length dO]) 0).run Try.prog w = .ok (.slice (some ⟨bO, oO, none⟩) 4 cO) w := fun w => by kernel_rfl
          go_wp2
          go_ret
          exact ⟨rfl, hfin⟩
end Go.Proofs.Ytoendmbgfbhidaa

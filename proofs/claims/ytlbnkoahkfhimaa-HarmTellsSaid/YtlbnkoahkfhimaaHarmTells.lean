/- Chapter 10: HarmTells holds for every input: the call returns true, and each argument reads behind it as it read before. -/
import Derived.Test.YtlbnkoahkfhimaaOpen3
import Derived.Test.YtlbnkoahkfhimaaC11
import Derived.Test.YtlbnkoahkfhimaaC9g
namespace Go.Proofs.Ytlbnkoahkfhimaa
set_option linter.unusedVariables false
open Go Go.RowKit M
theorem rot_ints {a : Arr} (h : a.ints = []) (d s n : Int) : (rotA a d s n).1.ints = [] := by
  rcases rot_cases a d s n with e | ⟨_, _, _, _, _, _, _, _, _, e⟩ <;> rw [e] <;> exact h
theorem gone_ints {a : Arr} (h : a.ints = []) (d : Int) : (goneA a d).1.ints = [] := by
  rcases gone_cases a d with e | ⟨_, _, _, e⟩ <;> rw [e] <;> exact h
set_option maxRecDepth 100000 in
set_option maxHeartbeats 1600000 in
theorem harmTells_walk (l : List Step) (vl : Value) (d s n : Int) (w : World) (hl : RdSts w (fun _ => True) vl l) (_ : -9223372036854775808 ≤ d) (_ : d ≤ 9223372036854775807) (_ : -9223372036854775808 ≤ s) (_ : s ≤ 9223372036854775807) (_ : -9223372036854775808 ≤ n) (_ : n ≤ 9223372036854775807) :
    Calls Try.prog 9 #[vl, .int .i64 d, .int .i64 s, .int .i64 n] w fun e w' => e = .returned (.bool true) ∧ Below w.heap.size w w' := by
  obtain ⟨Ast, cst, rfl, _, _⟩ := id hl
  have HL := Lib.hid hl
  have HBel := Lib.hid (Below.refl w.heap.size w)
  clear hl
  go_enter Try.func9, Try.ntmps9
  go_wp2_with fail
  refine (ref_Play l _ _ _ HL.out).mono ?_
  rintro e waA ⟨vA, uu, rfl, hr, hu, hb⟩
  obtain ⟨bA, oA, cA, AA, dA, rfl, _, _, hcA, hmA⟩ := RdA_open hr (playTo_good l 100).1
  rw [show (playA l).ints.length = 0 by rw [show (playA l).ints = [] from (playTo_good l 100).2]; rfl] at hr ⊢
  have ord0A : w.heap.size ≤ waA.heap.size := Nat.le_trans HBel.out.size hb.size
  have hal := below_alloc waA (.cells #[.slice (some ⟨bA, oA, none⟩) 4 cA, .slice AA 0 dA] 41)
  have hX := boxAt_new waA 41 [.slice (some ⟨bA, oA, none⟩) 4 cA, .slice AA 0 dA]
  have hbb := hb.trans (hal.mono hb.size)
  have hrl := hr.lt.mono (F' := fun k => w.heap.size ≤ k ∧ k < waA.heap.size) fun k hk => by  omega
  have HRdA := Lib.hid (hrl.grow hal)
  replace HBel := Lib.hid (HBel.out.trans (hbb.mono HBel.out.size))
  obtain ⟨wA, hwA⟩ : ∃ x, waA.alloc (.cells #[.slice (some ⟨bA, oA, none⟩) 4 cA, .slice AA 0 dA] 41) = x := ⟨_, rfl⟩
  change BoxAt (waA.alloc (.cells #[.slice (some ⟨bA, oA, none⟩) 4 cA, .slice AA 0 dA] 41)) _ _ _ at hX
  rw [hwA] at hX HRdA HBel   
  have HBxA := Lib.hid hX
  clear hal hX hbb hr hb hrl
  obtain ⟨pA0, pA1, pA2, pA3⟩ := HBxA.out.two
  go_wp2_with fail
  clear hwA
  obtain ⟨hsh, hno⟩ := playTo_good l 100
  change Shape (playA l).disks at hsh
  change (playA l).ints = [] at hno
  generalize playA l = a at *
  have HSN := Lib.hid (And.intro hsh hno)
  clear hsh hno
  refine (harm_Rot a d s n _ _ _ HRdA.out HSN.out.1 HSN.out.2).mono ?_
  rintro e waX ⟨vX, rfl, hr, hb⟩
  obtain ⟨bX, oX, cX, AX, dX, rfl, _, _, hcX, hmX⟩ := RdA_open hr (rot_shape HSN.out.1 d s n)
  rw [show (rotA a d s n).1.ints.length = 0 by rw [rot_ints HSN.out.2 d s n]; rfl] at hr ⊢
  have ord0X : w.heap.size ≤ waX.heap.size := Nat.le_trans HBel.out.size hb.size
  have ordAX : waA.heap.size < waX.heap.size := Nat.lt_of_lt_of_le HBxA.out.lt hb.size
  have hal := below_alloc waX (.cells #[.slice (some ⟨bX, oX, none⟩) 4 cX, .slice AX 0 dX] 41)
  have hX := boxAt_new waX 41 [.slice (some ⟨bX, oX, none⟩) 4 cX, .slice AX 0 dX]
  have hbb := hb.trans (hal.mono hb.size)
  have hrl := hr.lt.mono (F' := fun k => waA.heap.size < k ∧ k < waX.heap.size) fun k hk => by have := HBxA.out.lt; omega
  have HRdX := Lib.hid (hrl.grow hal)
  replace HBxA := Lib.hid (HBxA.out.grow hbb)
  replace HRdA := Lib.hid (HRdA.out.grow hbb)
  replace HBel := Lib.hid (HBel.out.trans (hbb.mono HBel.out.size))
  clear pA0 pA1 pA2 pA3
  obtain ⟨wX, hwX⟩ : ∃ x, waX.alloc (.cells #[.slice (some ⟨bX, oX, none⟩) 4 cX, .slice AX 0 dX] 41) = x := ⟨_, rfl⟩
  change BoxAt (waX.alloc (.cells #[.slice (some ⟨bX, oX, none⟩) 4 cX, .slice AX 0 dX] 41)) _ _ _ at hX
  rw [hwX] at hX HRdX HBel HBxA HRdA 
  have HBxX := Lib.hid hX
  clear hal hX hbb hr hb hrl
  obtain ⟨pA0, pA1, pA2, pA3⟩ := HBxA.out.two
  obtain ⟨pX0, pX1, pX2, pX3⟩ := HBxX.out.two
  go_wp2_with fail
  clear hwX
  refine (ref_Rot a d s n _ _ _ HRdA.out HSN.out.1).mono ?_
  rintro e waY ⟨vY, rfl, hr, hb⟩
  obtain ⟨bY, oY, cY, AY, dY, rfl, _, _, hcY, hmY⟩ := RdA_open hr (rot_shape HSN.out.1 d s n)
  rw [show (rotA a d s n).1.ints.length = 0 by rw [rot_ints HSN.out.2 d s n]; rfl] at hr ⊢
  have ord0Y : w.heap.size ≤ waY.heap.size := Nat.le_trans HBel.out.size hb.size
  have ordAY : waA.heap.size < waY.heap.size := Nat.lt_of_lt_of_le HBxA.out.lt hb.size
  have ordXY : waX.heap.size < waY.heap.size := Nat.lt_of_lt_of_le HBxX.out.lt hb.size
  have hal := below_alloc waY (.cells #[.slice (some ⟨bY, oY, none⟩) 4 cY, .slice AY 0 dY] 41)
  have hX := boxAt_new waY 41 [.slice (some ⟨bY, oY, none⟩) 4 cY, .slice AY 0 dY]
  have hbb := hb.trans (hal.mono hb.size)
  have hrl := hr.lt.mono (F' := fun k => k < waA.heap.size ∨ waX.heap.size < k ∧ k < waY.heap.size) fun k hk => by have := HBxA.out.lt; have := HBxX.out.lt; omega
  have HRdY := Lib.hid (hrl.grow hal)
  replace HBxA := Lib.hid (HBxA.out.grow hbb)
  replace HBxX := Lib.hid (HBxX.out.grow hbb)
  replace HRdA := Lib.hid (HRdA.out.grow hbb)
  replace HRdX := Lib.hid (HRdX.out.grow hbb)
  replace HBel := Lib.hid (HBel.out.trans (hbb.mono HBel.out.size))
  clear pA0 pA1 pA2 pA3 pX0 pX1 pX2 pX3
  obtain ⟨wY, hwY⟩ : ∃ x, waY.alloc (.cells #[.slice (some ⟨bY, oY, none⟩) 4 cY, .slice AY 0 dY] 41) = x := ⟨_, rfl⟩
  change BoxAt (waY.alloc (.cells #[.slice (some ⟨bY, oY, none⟩) 4 cY, .slice AY 0 dY] 41)) _ _ _ at hX
  rw [hwY] at hX HRdY HBel HBxA HBxX HRdA HRdX 
  have HBxY := Lib.hid hX
  clear hal hX hbb hr hb hrl
  obtain ⟨pA0, pA1, pA2, pA3⟩ := HBxA.out.two
  obtain ⟨pX0, pX1, pX2, pX3⟩ := HBxX.out.two
  obtain ⟨pY0, pY1, pY2, pY3⟩ := HBxY.out.two
  go_wp2_with fail
  clear hwY
  refine (ref_Same _ _ _ _ _ _ _ HRdX.out HRdY.out (rot_shape HSN.out.1 d s n) (rot_shape HSN.out.1 d s n) (rot_ints HSN.out.2 d s n) (rot_ints HSN.out.2 d s n)).mono ?_
  rintro e wq1 ⟨rfl, hb⟩
  rw [beq_self_eq_true]
  replace HBxA := Lib.hid (HBxA.out.grow hb)
  replace HBxX := Lib.hid (HBxX.out.grow hb)
  replace HBxY := Lib.hid (HBxY.out.grow hb)
  replace HRdA := Lib.hid (HRdA.out.grow hb)
  replace HRdX := Lib.hid (HRdX.out.grow hb)
  replace HRdY := Lib.hid (HRdY.out.grow hb)
  replace HBel := Lib.hid (HBel.out.trans (hb.mono HBel.out.size))
  clear pA0 pA1 pA2 pA3 pX0 pX1 pX2 pX3 pY0 pY1 pY2 pY3
  clear hb
  obtain ⟨pA0, pA1, pA2, pA3⟩ := HBxA.out.two
  obtain ⟨pX0, pX1, pX2, pX3⟩ := HBxX.out.two
  obtain ⟨pY0, pY1, pY2, pY3⟩ := HBxY.out.two
  go_wp2_with fail
  refine (harm_Gone a d _ _ _ HRdA.out HSN.out.1 HSN.out.2).mono ?_
  rintro e z2 ⟨v, rfl, hr, hb⟩
  obtain ⟨bz2, oz2, cz2, Az2, dz2, rfl, _, _, hcz2, hmz2⟩ := RdA_open hr (gone_shape' HSN.out.1 d)
  rw [show (goneA a d).1.ints.length = 0 by rw [gone_ints HSN.out.2 d]; rfl] at hr ⊢
  have hsA := HBxA.out.lt
  have hsX := HBxX.out.lt
  have hsY := HBxY.out.lt
  have hrl := hr.lt
  replace HBxA := Lib.hid (HBxA.out.grow hb)
  replace HBxX := Lib.hid (HBxX.out.grow hb)
  replace HBxY := Lib.hid (HBxY.out.grow hb)
  replace HRdA := Lib.hid (HRdA.out.grow hb)
  replace HRdX := Lib.hid (HRdX.out.grow hb)
  replace HRdY := Lib.hid (HRdY.out.grow hb)
  replace HBel := Lib.hid (HBel.out.trans (hb.mono HBel.out.size))
  clear pA0 pA1 pA2 pA3 pX0 pX1 pX2 pX3 pY0 pY1 pY2 pY3
  obtain ⟨q0, q1, q2, q3⟩ := HBxX.out.two
  have g0 : BoxAt (set2 z2 waX.heap.size (.slice (some ⟨bz2, oz2, none⟩) 4 cz2) (.slice Az2 0 dz2)) _ _ _ := HBxX.out.put2
  have gA : BoxAt (set2 z2 waX.heap.size (.slice (some ⟨bz2, oz2, none⟩) 4 cz2) (.slice Az2 0 dz2)) _ _ _ := HBxA.out.far2 (by omega)
  have gY : BoxAt (set2 z2 waX.heap.size (.slice (some ⟨bz2, oz2, none⟩) 4 cz2) (.slice Az2 0 dz2)) _ _ _ := HBxY.out.far2 (by omega)
  have rA : RdA (set2 z2 waX.heap.size (.slice (some ⟨bz2, oz2, none⟩) 4 cz2) (.slice Az2 0 dz2)) _ _ _ := HRdA.out.set2 (b := waX.heap.size) (fun k hk => by omega)
  have rY : RdA (set2 z2 waX.heap.size (.slice (some ⟨bz2, oz2, none⟩) 4 cz2) (.slice Az2 0 dz2)) _ _ _ := HRdY.out.set2 (b := waX.heap.size) (fun k hk => by omega)
  have rn : RdA (set2 z2 waX.heap.size (.slice (some ⟨bz2, oz2, none⟩) 4 cz2) (.slice Az2 0 dz2)) (fun k => waY.heap.size < k) _ _ := (hrl.mono (F' := fun k => waY.heap.size < k) fun k hk => by omega).set2 (b := waX.heap.size) (fun k hk => by omega)
  have gb := HBel.out.trans (below_set2 (w := z2) (b := waX.heap.size) (v0 := .slice (some ⟨bz2, oz2, none⟩) 4 cz2) (v1 := .slice Az2 0 dz2) (by omega))
  obtain ⟨wz2, hwz2⟩ : ∃ x, set2 z2 waX.heap.size (.slice (some ⟨bz2, oz2, none⟩) 4 cz2) (.slice Az2 0 dz2) = x := ⟨_, rfl⟩
  rw [hwz2] at g0 gA gY rA rY rn gb
  change (z2.setCell ⟨waX.heap.size, 0, none⟩ (.slice (some ⟨bz2, oz2, none⟩) 4 cz2)).setCell ⟨waX.heap.size, 1, none⟩ (.slice Az2 0 dz2) = wz2 at hwz2
  replace HBxX := Lib.hid g0
  replace HRdX := Lib.hid rn
  replace HBxA := Lib.hid gA
  replace HBxY := Lib.hid gY
  replace HRdA := Lib.hid rA
  replace HRdY := Lib.hid rY
  replace HBel := Lib.hid gb
  clear hr hrl hb g0 gA gY rA rY rn gb hsA hsX hsY
  obtain ⟨pA0, pA1, pA2, pA3⟩ := HBxA.out.two
  obtain ⟨pX0, pX1, pX2, pX3⟩ := HBxX.out.two
  obtain ⟨pY0, pY1, pY2, pY3⟩ := HBxY.out.two
  go_wp2_with fail
  clear hwz2 q0 q1 q2 q3
  refine (ref_Gone a d _ _ _ HRdA.out HSN.out.1).mono ?_
  rintro e z3 ⟨v, rfl, hr, hb⟩
  obtain ⟨bz3, oz3, cz3, Az3, dz3, rfl, _, _, hcz3, hmz3⟩ := RdA_open hr (gone_shape' HSN.out.1 d)
  rw [show (goneA a d).1.ints.length = 0 by rw [gone_ints HSN.out.2 d]; rfl] at hr ⊢
  have hsA := HBxA.out.lt
  have hsX := HBxX.out.lt
  have hsY := HBxY.out.lt
  have hrl := hr.lt
  replace HBxA := Lib.hid (HBxA.out.grow hb)
  replace HBxX := Lib.hid (HBxX.out.grow hb)
  replace HBxY := Lib.hid (HBxY.out.grow hb)
  replace HRdA := Lib.hid (HRdA.out.grow hb)
  replace HRdX := Lib.hid (HRdX.out.grow hb)
  replace HRdY := Lib.hid (HRdY.out.grow hb)
  replace HBel := Lib.hid (HBel.out.trans (hb.mono HBel.out.size))
  clear pA0 pA1 pA2 pA3 pX0 pX1 pX2 pX3 pY0 pY1 pY2 pY3
  obtain ⟨q0, q1, q2, q3⟩ := HBxY.out.two
  have g0 : BoxAt (set2 z3 waY.heap.size (.slice (some ⟨bz3, oz3, none⟩) 4 cz3) (.slice Az3 0 dz3)) _ _ _ := HBxY.out.put2
  have gA : BoxAt (set2 z3 waY.heap.size (.slice (some ⟨bz3, oz3, none⟩) 4 cz3) (.slice Az3 0 dz3)) _ _ _ := HBxA.out.far2 (by omega)
  have gX : BoxAt (set2 z3 waY.heap.size (.slice (some ⟨bz3, oz3, none⟩) 4 cz3) (.slice Az3 0 dz3)) _ _ _ := HBxX.out.far2 (by omega)
  have rA : RdA (set2 z3 waY.heap.size (.slice (some ⟨bz3, oz3, none⟩) 4 cz3) (.slice Az3 0 dz3)) _ _ _ := HRdA.out.set2 (b := waY.heap.size) (fun k hk => by omega)
  have rX : RdA (set2 z3 waY.heap.size (.slice (some ⟨bz3, oz3, none⟩) 4 cz3) (.slice Az3 0 dz3)) _ _ _ := HRdX.out.set2 (b := waY.heap.size) (fun k hk => by omega)
  have rn : RdA (set2 z3 waY.heap.size (.slice (some ⟨bz3, oz3, none⟩) 4 cz3) (.slice Az3 0 dz3)) (fun k => k < waA.heap.size ∨ waY.heap.size < k) _ _ := (hrl.mono (F' := fun k => k < waA.heap.size ∨ waY.heap.size < k) fun k hk => by omega).set2 (b := waY.heap.size) (fun k hk => by omega)
  have gb := HBel.out.trans (below_set2 (w := z3) (b := waY.heap.size) (v0 := .slice (some ⟨bz3, oz3, none⟩) 4 cz3) (v1 := .slice Az3 0 dz3) (by omega))
  obtain ⟨wz3, hwz3⟩ : ∃ x, set2 z3 waY.heap.size (.slice (some ⟨bz3, oz3, none⟩) 4 cz3) (.slice Az3 0 dz3) = x := ⟨_, rfl⟩
  rw [hwz3] at g0 gA gX rA rX rn gb
  change (z3.setCell ⟨waY.heap.size, 0, none⟩ (.slice (some ⟨bz3, oz3, none⟩) 4 cz3)).setCell ⟨waY.heap.size, 1, none⟩ (.slice Az3 0 dz3) = wz3 at hwz3
  replace HBxY := Lib.hid g0
  replace HRdY := Lib.hid rn
  replace HBxA := Lib.hid gA
  replace HBxX := Lib.hid gX
  replace HRdA := Lib.hid rA
  replace HRdX := Lib.hid rX
  replace HBel := Lib.hid gb
  clear hr hrl hb g0 gA gX rA rX rn gb hsA hsX hsY
  obtain ⟨pA0, pA1, pA2, pA3⟩ := HBxA.out.two
  obtain ⟨pX0, pX1, pX2, pX3⟩ := HBxX.out.two
  obtain ⟨pY0, pY1, pY2, pY3⟩ := HBxY.out.two
  go_wp2_with fail
  clear hwz3 q0 q1 q2 q3
  refine (ref_Same _ _ _ _ _ _ _ HRdX.out HRdY.out (gone_shape' HSN.out.1 d) (gone_shape' HSN.out.1 d) (gone_ints HSN.out.2 d) (gone_ints HSN.out.2 d)).mono ?_
  rintro e wq4 ⟨rfl, hb⟩
  rw [beq_self_eq_true]
  replace HBxA := Lib.hid (HBxA.out.grow hb)
  replace HBxX := Lib.hid (HBxX.out.grow hb)
  replace HBxY := Lib.hid (HBxY.out.grow hb)
  replace HRdA := Lib.hid (HRdA.out.grow hb)
  replace HRdX := Lib.hid (HRdX.out.grow hb)
  replace HRdY := Lib.hid (HRdY.out.grow hb)
  replace HBel := Lib.hid (HBel.out.trans (hb.mono HBel.out.size))
  clear pA0 pA1 pA2 pA3 pX0 pX1 pX2 pX3 pY0 pY1 pY2 pY3
  clear hb
  obtain ⟨pA0, pA1, pA2, pA3⟩ := HBxA.out.two
  obtain ⟨pX0, pX1, pX2, pX3⟩ := HBxX.out.two
  obtain ⟨pY0, pY1, pY2, pY3⟩ := HBxY.out.two
  go_wp2
  go_ret
  exact ⟨rfl, HBel.out⟩
namespace harmTellsDone
open Go.ChangeShapes Go.WideShapes Go.ChangeAt Go.RowKit M
open Go.ChangeMaps (open_string shut_string)
set_option linter.unusedVariables false
set_option maxRecDepth 100000 in
theorem lifted (os : Os) (started : os.Started) (H : Type) (enc : TypeId × Value → H) :
    ReturnsInHanded {} Try.checked os 9 .any (Rows.harmTellsSpec.pre6 enc Try.prog Try.f9 Rows.harmTellsRow.domain false) (Rows.harmTellsSpec.post enc Try.prog Try.f9 false true false false) := by
  refine returnsInHanded_of_change (C := Try.checked) own started (by kernel_rfl) Try.func9
    (ChangeSpec.witness6 (enc := enc) (C := Try.checked) false ⟨#[], #[.slice none 0 0, .int .i64 0, .int .i64 0, .int .i64 0], []⟩ 8 (by kernel_rfl) (by kernel_rfl) (by kernel_rfl) (by kernel_rfl)) ?_
  intro W base args ds gs before hval0 hW hcnd _
  have hval : ∀ (j : Nat) t v, Try.f9.params[j]? = some t → args[j]? = some v → Value.okWide Try.prog W .any base t v := hval0
  have hW' := hW
  obtain ⟨p, q, hA0, hV, rfl, hfz, hnd⟩ := hW
  have hA : DataW.TrodAll enc Try.prog W 0 (fun _ => true) true Try.f9.params.toList args.toList ds p := hA0
  rw [Try.params9] at hA hval
  obtain ⟨v0, vs0, d0, ds0, p0, q0, hargs, rfl, rfl, h0, r0⟩ := trodAll_cons hA
  obtain ⟨v1, vs1, d1, ds1, p1, q1, rfl, rfl, rfl, h1, r1⟩ := trodAll_cons r0
  obtain ⟨v2, vs2, d2, ds2, p2, q2, rfl, rfl, rfl, h2, r2⟩ := trodAll_cons r1
  obtain ⟨v3, vs3, d3, ds3, p3, q3, rfl, rfl, rfl, h3, r3⟩ := trodAll_cons r2
  obtain ⟨rfl, rfl, rfl⟩ := trodAll_nil r3
  obtain rfl : args = #[v0, v1, v2, v3] := by cases args; simp_all
  obtain ⟨rfl, rfl⟩ := trodVars_none hV
  obtain ⟨a0, len0, cap0, rfl⟩ := okWide_slice Try.underlying37 (hval 0 37 v0 rfl rfl)
  have k0 := h0
  have lt0 : ∀ x ∈ p0, x.block < W.heap.size := by obtain ⟨m, hm⟩ := k0; exact DataW.trod_lt m _ _ _ hm
  obtain ⟨fuel0, hf0⟩ := h0
  obtain ⟨b0, w0, l0⟩ := open_steps hf0
  obtain ⟨a1, rfl, rfl, rfl, w1⟩ := open_int Try.underlying3 (hval 1 3 v1 rfl rfl) h1
  have b1 := bounds_i64 w1
  obtain ⟨a2, rfl, rfl, rfl, w2⟩ := open_int Try.underlying3 (hval 2 3 v2 rfl rfl) h2
  have b2 := bounds_i64 w2
  obtain ⟨a3, rfl, rfl, rfl, w3⟩ := open_int Try.underlying3 (hval 3 3 v3 rfl rfl) h3
  have b3 := bounds_i64 w3
  clear hA0 hval0
  refine (harmTells_walk b0 _ a1 a2 a3 W w0 b1.1 b1.2 b2.1 b2.2 b3.1 b3.2).mono fun e W' ⟨he, bel⟩ => ?_
  subst he
  exact ⟨_, rfl, _, _, _, [], _, [], hW', trodAll_mk1 (shut_bool Try.underlying4 _), (trodAll_cons_mk (Below.trod laidOut (by kernel_rfl) (of_decide_eq_true (by kernel_rfl)) k0 bel lt0) (trodAll_cons_mk (shut_int Try.underlying3 w1) (trodAll_cons_mk (shut_int Try.underlying3 w2) (trodAll_cons_mk (shut_int Try.underlying3 w3) trodAll_mk0)))), rfl, bel.frame _, fun h => by cases h⟩
theorem over : Rows.harmTellsRow.holds Try.pinned (OpenSpec.ofChange Rows.harmTellsSpec) :=
  OpenClaim.holds_of_wide 9 Try.f9 rfl rfl rfl rfl rfl rfl rfl ⟨rfl, rfl, rfl, rfl, rfl⟩ rfl rfl rfl rfl rfl (by kernel_rfl) Try.func9 (by kernel_rfl)
    (of_decide_eq_true (by kernel_rfl)) (by unfold Func.isWrapper; first | (rw [if_pos (by decide +kernel)]; kernel_rfl) | (rw [if_neg (by decide +kernel)]; exact ⟨rfl, rfl⟩))
    (fun os started H enc _ => lifted os started H enc)
/-- The statement. -/
theorem proved : Rows.HarmTellsSaid := over
end harmTellsDone
end Go.Proofs.Ytlbnkoahkfhimaa

/- Chapter 11: the closed fact of its statements. -/
import Derived.Test.YtoendmbgfbhidaaC23
import Derived.Test.YtoendmbgfbhidaaL8b
namespace Go.Proofs.Ytoendmbgfbhidaa
set_option linter.unusedVariables false
open Go Go.RowKit M
def l11 : List Step := [⟨1, 0, 0, d8⟩, ⟨4, 2, 0, ⟨0, 0, 0, []⟩⟩, ⟨5, 0, 0, ⟨0, 0, 0, []⟩⟩, ⟨4, 9, 0, ⟨0, 0, 0, []⟩⟩]
def a11 : Arr := playPTo l11 4
def s11 : Step := ⟨2, 3, 0, ⟨2, 4, 5, []⟩⟩
def b11 : Arr := (stepP a11 s11).1
theorem f11_facts : errsTo l11 4 = [0, 0, 0, 6] ∧ (stepP a11 s11).2 = 0 ∧ (readA b11.disks 5).1 = abcd8 := by decide +kernel
theorem a11_sh : Shape a11.disks ∧ a11.ints = [] := playPTo_good l11 4
theorem b11_sh : Shape b11.disks ∧ b11.ints = [] := stepP_good a11_sh.1 a11_sh.2 s11
theorem sts11 {w : World} {b : Nat} {T : TypeId} {u : Value} (hX : BoxAt w b T [.int .i64 1, .int .i64 0, .int .i64 0, .int .i64 1, .int .i64 4, .int .i64 0, u, .int .i64 4, .int .i64 2, .int .i64 0, .int .i64 0, .int .i64 0, .int .i64 0, .slice none 0 0, .int .i64 5, .int .i64 0, .int .i64 0, .int .i64 0, .int .i64 0, .int .i64 0, .slice none 0 0, .int .i64 4, .int .i64 9, .int .i64 0, .int .i64 0, .int .i64 0, .int .i64 0, .slice none 0 0]) (hu : RdB w (fun _ => True) u abcd8) : RdSts w (fun _ => True) (.slice (some ⟨b, 0, none⟩) 4 4) l11 := by
  refine ⟨_, _, rfl, Nat.le_refl _, by decide, fun j s hs => ?_⟩
  have hn : RdB w (fun _ => True) (.slice none 0 0) [] := RdL.nil_ _ _ _ _ _ (by decide)
  match j, hs with
  | 0, hs => obtain rfl := Option.some.inj hs; exact ⟨b, 0, rfl, trivial, hX.lt, hX.cell 0, hX.cell 1, hX.cell 2, hX.cell 3, hX.cell 4, hX.cell 5, by decide, _, hX.cell 6, hu⟩
  | 1, hs => obtain rfl := Option.some.inj hs; exact ⟨b, 0, rfl, trivial, hX.lt, hX.cell 7, hX.cell 8, hX.cell 9, hX.cell 10, hX.cell 11, hX.cell 12, by decide, _, hX.cell 13, hn⟩
  | 2, hs => obtain rfl := Option.some.inj hs; exact ⟨b, 0, rfl, trivial, hX.lt, hX.cell 14, hX.cell 15, hX.cell 16, hX.cell 17, hX.cell 18, hX.cell 19, by decide, _, hX.cell 20, hn⟩
  | 3, hs => obtain rfl := Option.some.inj hs; exact ⟨b, 0, rfl, trivial, hX.lt, hX.cell 21, hX.cell 22, hX.cell 23, hX.cell 24, hX.cell 25, hX.cell 26, by decide, _, hX.cell 27, hn⟩
  | j + 4, hs => simp [l11] at hs
set_option maxRecDepth 100000 in
set_option maxHeartbeats 1600000 in
theorem law11_alive (w : World) : Calls Try.prog 46 #[] w fun e w' => e = .returned (.bool true) ∧ Below w.heap.size w w' := by
  have HBel := Lib.hid (Below.refl w.heap.size w)
  have kc := fun (w : World) (C : Array Value) (n c : Nat) => Lib.run_convert_bytes_const (P := Try.prog) w 23 5 C n c Try.underlying23 Try.underlying5
  have hd0 : RdB (w.alloc (.cells #[.int .u8 97, .int .u8 98, .int .u8 99, .int .u8 100] 5 (4, 5))) (fun _ => True) (.slice (some ⟨w.heap.size, 0, none⟩) 4 4) abcd8 := rd_const w abcd8 _ _ (by decide)
  have hl0 := below_alloc w (.cells #[.int .u8 97, .int .u8 98, .int .u8 99, .int .u8 100] 5 (4, 5))
  obtain ⟨w0, hw0⟩ : ∃ x, w.alloc (.cells #[.int .u8 97, .int .u8 98, .int .u8 99, .int .u8 100] 5 (4, 5)) = x := ⟨_, rfl⟩
  have hsz0 : w0.heap.size = w.heap.size + 1 := by rw [← hw0, alloc_size]
  rw [hw0] at hd0 hl0
  have hX0 := boxAt_new w0 25 [.int .i64 1, .int .i64 4, .int .i64 0, .slice (some ⟨w.heap.size, 0, none⟩) 4 4]
  have hl1 := below_alloc w0 (.cells #[.int .i64 1, .int .i64 4, .int .i64 0, .slice (some ⟨w.heap.size, 0, none⟩) 4 4] 25)
  have hd1 := okB.grow (okB.lt hd0) hl1
  obtain ⟨w1, hw1⟩ : ∃ x, w0.alloc (.cells #[.int .i64 1, .int .i64 4, .int .i64 0, .slice (some ⟨w.heap.size, 0, none⟩) 4 4] 25) = x := ⟨_, rfl⟩
  have hsz1 : w1.heap.size = w.heap.size + 1 + 1 := by rw [← hw1, alloc_size, hsz0]
  change BoxAt (w0.alloc (.cells #[.int .i64 1, .int .i64 4, .int .i64 0, .slice (some ⟨w.heap.size, 0, none⟩) 4 4] 25)) _ _ _ at hX0
  rw [hw1] at hX0 hd1 hl1
  rw [hsz0] at hX0
  replace HBel := Lib.hid (hl0.trans (hl1.mono hl0.size))
  have hS := boxAt_new w1 68 [.int .i64 1, .int .i64 0, .int .i64 0, .int .i64 1, .int .i64 4, .int .i64 0, .slice (some ⟨w.heap.size, 0, none⟩) 4 4, .int .i64 4, .int .i64 2, .int .i64 0, .int .i64 0, .int .i64 0, .int .i64 0, .slice none 0 0, .int .i64 5, .int .i64 0, .int .i64 0, .int .i64 0, .int .i64 0, .int .i64 0, .slice none 0 0, .int .i64 4, .int .i64 9, .int .i64 0, .int .i64 0, .int .i64 0, .int .i64 0, .slice none 0 0]
  have hl2 := below_alloc w1 (.cells #[.int .i64 1, .int .i64 0, .int .i64 0, .int .i64 1, .int .i64 4, .int .i64 0, .slice (some ⟨w.heap.size, 0, none⟩) 4 4, .int .i64 4, .int .i64 2, .int .i64 0, .int .i64 0, .int .i64 0, .int .i64 0, .slice none 0 0, .int .i64 5, .int .i64 0, .int .i64 0, .int .i64 0, .int .i64 0, .int .i64 0, .slice none 0 0, .int .i64 4, .int .i64 9, .int .i64 0, .int .i64 0, .int .i64 0, .int .i64 0, .slice none 0 0] 68)
  have hd2 := okB.grow hd1 hl2
  obtain ⟨w2, hw2⟩ : ∃ x, w1.alloc (.cells #[.int .i64 1, .int .i64 0, .int .i64 0, .int .i64 1, .int .i64 4, .int .i64 0, .slice (some ⟨w.heap.size, 0, none⟩) 4 4, .int .i64 4, .int .i64 2, .int .i64 0, .int .i64 0, .int .i64 0, .int .i64 0, .slice none 0 0, .int .i64 5, .int .i64 0, .int .i64 0, .int .i64 0, .int .i64 0, .int .i64 0, .slice none 0 0, .int .i64 4, .int .i64 9, .int .i64 0, .int .i64 0, .int .i64 0, .int .i64 0, .slice none 0 0] 68) = x := ⟨_, rfl⟩
  change BoxAt (w1.alloc (.cells #[.int .i64 1, .int .i64 0, .int .i64 0, .int .i64 1, .int .i64 4, .int .i64 0, .slice (some ⟨w.heap.size, 0, none⟩) 4 4, .int .i64 4, .int .i64 2, .int .i64 0, .int .i64 0, .int .i64 0, .int .i64 0, .slice none 0 0, .int .i64 5, .int .i64 0, .int .i64 0, .int .i64 0, .int .i64 0, .int .i64 0, .slice none 0 0, .int .i64 4, .int .i64 9, .int .i64 0, .int .i64 0, .int .i64 0, .int .i64 0, .slice none 0 0] 68)) _ _ _ at hS
  rw [hw2] at hS hd2 hl2
  rw [hsz1] at hS
  have HST := Lib.hid (sts11 hS (okB.mono hd2 fun _ _ => trivial))
  replace HBel := Lib.hid (HBel.out.trans (hl2.mono HBel.out.size))
  obtain ⟨k0, k1, k2, k3⟩ := hX0.four
  clear hX0 hd1 hl1 hd0 hl0 hS hl2 hd2
  go_enter Try.func46, Try.ntmps46
  go_wp2_with fail
  clear hw0 hw1 hw2 hsz0 hsz1 k0 k1 k2 k3
  refine (play_Play l11 _ _ _ HST.out (by decide) (show ∀ s ∈ l11, -9223372036854775808 ≤ s.n from by decide)).mono ?_
  rintro e waA ⟨vA, uC, rfl, hr, hu, hb⟩
  change RdL RI waA _ uC (errsTo l11 4) at hu
  rw [f11_facts.1] at hu
  obtain ⟨An, cn, rfl, hcn, hcnm⟩ := hu.shape
  rw [show ([0, 0, 0, 6] : List Int).length = 4 from rfl] at hu hcn ⊢
  change RdA waA _ _ a11 at hr
  obtain ⟨bA, oA, cA, AA, dA, rfl, _, _, hcA, hmA⟩ := RdA_open hr a11_sh.1
  rw [show a11.ints.length = 0 by rw [a11_sh.2]; rfl] at hr ⊢
  have ord0A : w.heap.size ≤ waA.heap.size := Nat.le_trans HBel.out.size hb.size
  have hal := below_alloc waA (.cells #[.slice (some ⟨bA, oA, none⟩) 4 cA, .slice AA 0 dA] 30)
  have hX := boxAt_new waA 30 [.slice (some ⟨bA, oA, none⟩) 4 cA, .slice AA 0 dA]
  have hbb := hb.trans (hal.mono hb.size)
  have hrl := hr.lt.mono (F' := fun k => w.heap.size ≤ k ∧ k < waA.heap.size) fun k hk => by have := HBel.out.size;  omega
  have HRdA := Lib.hid (hrl.grow hal)
  replace HBel := Lib.hid (HBel.out.trans (hbb.mono HBel.out.size))
  have HNS := Lib.hid ((okL okI).grow hu hal)
  obtain ⟨wA, hwA⟩ : ∃ x, waA.alloc (.cells #[.slice (some ⟨bA, oA, none⟩) 4 cA, .slice AA 0 dA] 30) = x := ⟨_, rfl⟩
  change BoxAt (waA.alloc (.cells #[.slice (some ⟨bA, oA, none⟩) 4 cA, .slice AA 0 dA] 30)) _ _ _ at hX
  rw [hwA] at hX HRdA HBel    HNS
  have HBxA := Lib.hid hX
  clear hal hX hbb hr hb hrl
  obtain ⟨pA0, pA1, pA2, pA3⟩ := HBxA.out.two
  go_wp2_with fail
  clear hwA
  clear hu
  refine (play_Do a11 s11 _ _ _ _ HRdA.out (F2 := fun _ => True) ⟨_, rfl, by decide, RdL.nil_ _ _ _ _ _ (by decide)⟩ a11_sh.1 a11_sh.2 (by decide)).mono ?_
  rintro e waB ⟨vB, rfl, hr, hb⟩
  rw [f11_facts.2.1]
  change RdA waB _ _ b11 at hr
  obtain ⟨bB, oB, cB, AB, dB, rfl, _, _, hcB, hmB⟩ := RdA_open hr b11_sh.1
  rw [show b11.ints.length = 0 by rw [b11_sh.2]; rfl] at hr ⊢
  have ord0B : w.heap.size ≤ waB.heap.size := Nat.le_trans HBel.out.size hb.size
  have ordAB : waA.heap.size < waB.heap.size := Nat.lt_of_lt_of_le HBxA.out.lt hb.size
  have hal := below_alloc waB (.cells #[.slice (some ⟨bB, oB, none⟩) 4 cB, .slice AB 0 dB] 30)
  have hX := boxAt_new waB 30 [.slice (some ⟨bB, oB, none⟩) 4 cB, .slice AB 0 dB]
  have hbb := hb.trans (hal.mono hb.size)
  have hrl := hr.lt.mono (F' := fun k => waA.heap.size < k ∧ k < waB.heap.size) fun k hk => by have := HBel.out.size; have := HBxA.out.lt; omega
  have HRdB := Lib.hid (hrl.grow hal)
  replace HBxA := Lib.hid (HBxA.out.grow hbb)
  replace HRdA := Lib.hid (HRdA.out.grow hbb)
  replace HBel := Lib.hid (HBel.out.trans (hbb.mono HBel.out.size))
  replace HNS := Lib.hid ((okL okI).grow HNS.out hbb)
  clear pA0 pA1 pA2 pA3
  obtain ⟨wB, hwB⟩ : ∃ x, waB.alloc (.cells #[.slice (some ⟨bB, oB, none⟩) 4 cB, .slice AB 0 dB] 30) = x := ⟨_, rfl⟩
  change BoxAt (waB.alloc (.cells #[.slice (some ⟨bB, oB, none⟩) 4 cB, .slice AB 0 dB] 30)) _ _ _ at hX
  rw [hwB] at hX HRdB HBel HBxA HRdA HNS
  have HBxB := Lib.hid hX
  clear hal hX hbb hr hb hrl
  obtain ⟨pA0, pA1, pA2, pA3⟩ := HBxA.out.two
  obtain ⟨pB0, pB1, pB2, pB3⟩ := HBxB.out.two
  go_wp2_with fail
  clear hwB
  refine (ref_Read b11 5 _ _ _ HRdB.out b11_sh.1).mono ?_
  rintro e wR ⟨vR, rfl, hr, hb⟩
  rw [f11_facts.2.2] at hr
  generalize (readA b11.disks 5).2 = er at *
  obtain ⟨AR, cR, rfl, _, _⟩ := hr.shape
  replace HBxA := Lib.hid (HBxA.out.grow hb)
  replace HBxB := Lib.hid (HBxB.out.grow hb)
  replace HRdA := Lib.hid (HRdA.out.grow hb)
  replace HRdB := Lib.hid (HRdB.out.grow hb)
  replace HBel := Lib.hid (HBel.out.trans (hb.mono HBel.out.size))
  replace HNS := Lib.hid ((okL okI).grow HNS.out hb)
  clear pA0 pA1 pA2 pA3 pB0 pB1 pB2 pB3
  have hns := HNS.out
  obtain ⟨bn, on, un, rfl, _, hun, hRn⟩ := hns.at_ (k := 3) (by decide)
  obtain rfl : un = .int .i64 6 := hRn
  have hc2 := run_conv hr Try.underlying23 Try.underlying5 Try.underlying9
  have hst : (strB abcd8).toList = [97, 98, 99, 100] := strB_toList abcd8
  unfold maxLen at hcnm
  clear hr hb hns
  go_wp2
  go_ret
  exact ⟨rfl, HBel.out⟩
end Go.Proofs.Ytoendmbgfbhidaa

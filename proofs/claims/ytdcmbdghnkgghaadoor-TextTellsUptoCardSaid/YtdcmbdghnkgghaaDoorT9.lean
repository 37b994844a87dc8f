/- Chapter 6: what text.Print, and the reference's SameDeed, compute: the walks. -/
import Derived.Test.YtdcmbdghnkgghaaDoorT8
namespace Go.Proofs.YtdcmbdghnkgghaaDoor
set_option linter.unusedVariables false
open Go Go.RowKit M
def sameD (a b : Deed) : Bool := a.kind == b.kind && a.n == b.n && a.m == b.m && a.data == b.data
theorem sameD_iff (a b : Deed) : sameD a b = true ↔ a = b := by
  obtain ⟨k, n, m, l⟩ := a
  obtain ⟨k', n', m', l'⟩ := b
  simp [sameD, and_assoc]
set_option maxRecDepth 100000 in
set_option maxHeartbeats 1600000 in
theorem ref_SameDeed (a b : Deed) (va vb : Value) (F : Fp) (w : World) (ha : RdD w F va a) (hb : RdD w F vb b) :
    Calls Tryd.prog 11 #[va, vb] w fun e w' => e = .returned (.bool (sameD a b)) ∧ Below w.heap.size w w' := by
  obtain ⟨da, rfl, hda⟩ := ha
  obtain ⟨db, rfl, hdb⟩ := hb
  replace hda := okB.lt hda
  replace hdb := okB.lt hdb
  obtain ⟨Aa, ca, rfl, _, _⟩ := hda.shape
  obtain ⟨Ab, cb, rfl, _, _⟩ := hdb.shape
  obtain ⟨w1, hW, hA, hX, hB, hsz⟩ := boxes2 w [.int .i64 a.kind, .int .i64 a.n, .int .i64 a.m, .slice Aa a.data.length ca] [.int .i64 b.kind, .int .i64 b.n, .int .i64 b.m, .slice Ab b.data.length cb] 24 24
  change ((w.alloc (.cells #[.int .i64 a.kind, .int .i64 a.n, .int .i64 a.m, .slice Aa a.data.length ca] 24)).alloc (.cells #[.int .i64 b.kind, .int .i64 b.n, .int .i64 b.m, .slice Ab b.data.length cb] 24)) = w1 at hW
  have hca := run_conv (okB.grow hda hB) Tryd.underlying22 Tryd.underlying5 Tryd.underlying9
  have hcb := run_conv (okB.grow hdb hB) Tryd.underlying22 Tryd.underlying5 Tryd.underlying9
  obtain ⟨p0, p1, p2, p3⟩ := hA.four
  obtain ⟨q0, q1, q2, q3⟩ := hX.four
  have sa := strB_toList a.data
  have sb := strB_toList b.data
  have HB := Lib.hid hB
  have HS := Lib.hid (show sameD a b = (a.kind == b.kind && a.n == b.n && a.m == b.m && a.data == b.data) from rfl)
  clear hda hdb hA hX hB hsz
  cases e1 : (a.kind == b.kind) <;> cases e2 : (a.n == b.n) <;> cases e3 : (a.m == b.m) <;> (
    rw [e1, e2, e3] at HS
    go_enter Tryd.func11, Tryd.ntmps11
    go_wp2
    go_ret
    refine ⟨?_, HB.out⟩
    rw [HS.out]
    simp)
end Go.Proofs.YtdcmbdghnkgghaaDoor

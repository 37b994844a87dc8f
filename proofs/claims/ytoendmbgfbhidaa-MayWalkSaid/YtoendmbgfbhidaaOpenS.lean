/- The arguments of a law, opened: steps, with both bounds of their numbers. No walk here. -/
import Derived.Test.YtoendmbgfbhidaaZg
namespace Go.Proofs.Ytoendmbgfbhidaa
set_option linter.unusedVariables false
open Go Go.RowKit Go.ChangeShapes Go.WideShapes Go.Deep Go.Joins M
def Lo (l : List Step) : Prop := ∀ s ∈ l, -9223372036854775808 ≤ s.n
section
variable {H : Type} {enc : TypeId × Value → H} {w : World} {base : Nat} {spare : Nat → Bool} {held : Bool}
theorem open_int3 {t : TypeId} (ht : Try.prog.underlying t = some (.int .i64)) {fuel : Nat} {v : Value} {x : DataW H × List MemPlace} (h : DataW.trod enc Try.prog w base spare held fuel t [v] = some x) : ∃ n : Int, v = .int .i64 n ∧ -9223372036854775808 ≤ n ∧ n ≤ 9223372036854775807 := by
  obtain ⟨n, hv, _, hw⟩ := DataW.trod_int ht h
  have hb := bounds_i64 hw
  exact ⟨n, by simpa using hv, by omega, by omega⟩
set_option maxRecDepth 100000 in
theorem open_step3 {fuel : Nat} {cs : List Value} {x : DataW H × List MemPlace} (h : DataW.trod enc Try.prog w base spare held fuel 68 cs = some x) :
    ∃ (s : Step) (u : Value), cs = [.int .i64 s.kind, .int .i64 s.n, .int .i64 s.m, .int .i64 s.deed.kind, .int .i64 s.deed.n, .int .i64 s.deed.m, u] ∧ (-9223372036854775808 ≤ s.n ∧ s.n ≤ 9223372036854775807) ∧ RdB w (fun _ => True) u s.deed.data := by
  obtain ⟨y0, y1, y2, y3, n, _, hl, h0, h1, h2, h3⟩ := trod_struct4 Try.underlying68 h
  rw [show Try.prog.cellsOf 68 = 7 by kernel_rfl] at hl
  obtain ⟨c0, c1, c2, c3, c4, c5, c6, rfl⟩ := list7 hl
  rw [show Try.prog.cellsOf 3 = 1 by kernel_rfl] at h0 h1 h2
  rw [show Try.prog.cellsOf 25 = 4 by kernel_rfl] at h3
  simp at h0 h1 h2 h3
  obtain ⟨a0, rfl, _⟩ := open_int3 Try.underlying3 h0
  obtain ⟨a1, rfl, hb1⟩ := open_int3 Try.underlying3 h1
  obtain ⟨a2, rfl, _⟩ := open_int3 Try.underlying3 h2
  obtain ⟨z0, z1, z2, z3, n', _, _, g0, g1, g2, g3⟩ := trod_struct4 Try.underlying25 h3
  rw [show Try.prog.cellsOf 3 = 1 by kernel_rfl] at g0 g1 g2
  rw [show Try.prog.cellsOf 23 = 1 by kernel_rfl] at g3
  simp at g0 g1 g2 g3
  obtain ⟨a3, rfl, _⟩ := open_int3 Try.underlying3 g0
  obtain ⟨a4, rfl, _⟩ := open_int3 Try.underlying3 g1
  obtain ⟨a5, rfl, _⟩ := open_int3 Try.underlying3 g2
  obtain ⟨b, hb, _⟩ := M.open_B Try.underlying23 Try.underlying5 (by kernel_rfl) g3
  exact ⟨⟨a0, a1, a2, ⟨a3, a4, a5, b⟩⟩, c6, rfl, hb1, hb⟩
set_option maxRecDepth 100000 in
theorem open_steps3 {fuel : Nat} {v : Value} {x : DataW H × List MemPlace} (h : DataW.trod enc Try.prog w base spare held fuel 22 [v] = some x) :
    ∃ l : List Step, (RdSts w (fun _ => True) v l ∧ Lo l) ∧ DLen x.1 l.length := by
  rcases open_slice Try.underlying22 h with ⟨hcs, rfl⟩ | ⟨a, len, cap, m, n, D, Pl, hcs, _, hl, hm, hmm, rfl, hi⟩
  · obtain rfl : v = .slice none 0 0 := by simpa using hcs
    exact ⟨[], ⟨⟨none, 0, rfl, Nat.le_refl _, by simp [maxLen], fun j s hs => by simp at hs⟩, fun s hs => by cases hs⟩, .inl ⟨rfl, rfl⟩⟩
  · obtain rfl : v = .slice (some a) len cap := by simpa using hcs
    have hlm : len ≤ m := by rw [hmm]; split <;> omega
    rw [show Try.prog.cellsOf 68 = 7 by kernel_rfl] at hi
    obtain ⟨l, hyl, hy⟩ := list_of_fn (n := len) (p := fun i (s : Step) => ∃ u, w.cells? base (a.add (i * 7)) 7 = some [.int .i64 s.kind, .int .i64 s.n, .int .i64 s.m, .int .i64 s.deed.kind, .int .i64 s.deed.n, .int .i64 s.deed.m, u] ∧ (-9223372036854775808 ≤ s.n ∧ s.n ≤ 9223372036854775807) ∧ RdB w (fun _ => True) u s.deed.data) fun i hi' => by
      obtain ⟨cs', hc, ht'⟩ := hi i (by omega)
      obtain ⟨s, u, rfl, h1, h2⟩ := open_step3 ht'
      exact ⟨s, u, hc, h1, h2⟩
    refine ⟨l, ⟨⟨some a, cap, by rw [hyl], by omega, hm, fun j s hs => ?_⟩, fun s hs => ?_⟩, .inr ⟨_, _, rfl, by simp [hyl]⟩⟩
    rotate_left
    · obtain ⟨j, hj, rfl⟩ := List.getElem_of_mem hs
      obtain ⟨_, _, h1, _⟩ := hy j _ (List.getElem?_eq_getElem hj)
      exact h1.1
    obtain ⟨u, hc, h1, h2⟩ := hy j s hs
    obtain ⟨_, hcl, hat⟩ := World.cells?_some hc
    obtain ⟨b, off, spot⟩ := a
    have hj : j < l.length := (List.getElem?_eq_some_iff.1 hs).1
    obtain ⟨u0, hc00, _, _⟩ := hy 0 (l[0]'(by omega)) (List.getElem?_eq_getElem _)
    have hc0 := (World.cells?_some hc00).2.2 0 (by decide)
    have hspot : spot = none := by simpa [Addr.add] using World.cell?_spot hc0
    subst hspot
    have hadd1 : ∀ o i, (⟨b, o, none⟩ : Addr).add i = ⟨b, o + i, none⟩ := fun o i => by unfold Addr.add; split <;> simp_all
    have hadd : ∀ i, ((⟨b, off, none⟩ : Addr).add (j * 7)).add i = ⟨b, off + j * 7 + i, none⟩ := fun i => by rw [hadd1, hadd1]
    refine ⟨b, off, rfl, trivial, ?_, ?_, ?_, ?_, ?_, ?_, ?_, h1.2, u, ?_, h2⟩
    · have := hat 0 (by decide)
      rw [hadd] at this
      exact World.block_lt_of_cell? w ⟨b, off + j * 7 + 0, none⟩ this
    · have := hat 0 (by decide); rw [hadd] at this; exact this
    · have := hat 1 (by decide); rw [hadd] at this; exact this
    · have := hat 2 (by decide); rw [hadd] at this; exact this
    · have := hat 3 (by decide); rw [hadd] at this; exact this
    · have := hat 4 (by decide); rw [hadd] at this; exact this
    · have := hat 5 (by decide); rw [hadd] at this; exact this
    · have := hat 6 (by decide); rw [hadd] at this; exact this
end
end Go.Proofs.Ytoendmbgfbhidaa

/- A slice's own values, told as they are; boxes that are stored into. No program in sight. -/
import Derived.Test.YtlbnkoahkfhimaaMem4
import Derived.Test.YtlbnkoahkfhimaaRegion2
namespace Go.Proofs.Ytlbnkoahkfhimaa.M
set_option linter.unusedVariables false
open Go Go.RowKit
/-- The values themselves. -/
def RV : Rel Value := fun _ _ u x => u = x ∧ x.oneCell' = true
theorem okRV : Ok RV := ⟨fun h _ => h, fun h _ => h, fun h => h, fun h => by rw [h.1]; exact h.2⟩
theorem RdL.vals {α : Type} {R : Rel α} (o : Ok R) {w : World} {F : Fp} {v : Value} {xs : List α} (h : RdL R w F v xs) : ∃ us : List Value, RdL RV w F v us ∧ us.length = xs.length ∧ ∀ (j : Nat) (u : Value) (x : α), us[j]? = some u → xs[j]? = some x → R w F u x := by
  obtain ⟨us, h1, h2, h3⟩ := h
  refine ⟨us, ⟨us, h1, rfl, fun j u x hu hx => ?_⟩, h2, h3⟩
  rw [hu] at hx
  injection hx with hx
  subst hx
  have hj := (List.getElem?_eq_some_iff.1 hu).1
  exact ⟨rfl, o.one (h3 j u (xs[j]'(by omega)) hu (List.getElem?_eq_getElem _))⟩
theorem RdL.of_vals {α : Type} {R : Rel α} {w : World} {F : Fp} {v : Value} {us : List Value} {xs : List α} (h : RdL RV w F v us) (hl : us.length = xs.length) (hR : ∀ (j : Nat) (u : Value) (x : α), us[j]? = some u → xs[j]? = some x → R w F u x) : RdL R w F v xs := by
  obtain ⟨us', h1, h2, h3⟩ := h
  have : us' = us := by
    apply List.ext_getElem h2
    intro i h4 h5
    exact (h3 i _ _ (List.getElem?_eq_getElem h4) (List.getElem?_eq_getElem h5)).1
  subst this
  exact ⟨us', h1, hl, hR⟩
/-- A store into a block that a reading does not touch. -/
theorem Ok.setc {α : Type} {R : Rel α} (o : Ok R) {w : World} {F : Fp} {u : Value} {x : α} (h : R w F u x) {b j : Nat} {v : Value} (hb : ∀ k, F k → k ≠ b) : R (w.setCell ⟨b, j, none⟩ v) F u x :=
  o.keep h fun k hk _ => Below.heap_setCell w ⟨b, j, none⟩ v k (hb k hk)
theorem Bld.setc {α : Type} {R : Rel α} (o : Ok R) {E : TypeId} {w : World} {base : Nat} {G : Fp} {u : Value} {xs : List α} (h : Bld R E w base G u xs) {b j : Nat} {v : Value} (h1 : ∀ k, u.ownBlock = some k → k ≠ b) (hb : ∀ k, G k → k < w.heap.size → k ≠ b) : Bld R E (w.setCell ⟨b, j, none⟩ v) base G u xs :=
  (h.lt o).keepF o (fun k hk => Below.heap_setCell w ⟨b, j, none⟩ v k (h1 k hk)) (fun k _ hG _ => Below.heap_setCell w ⟨b, j, none⟩ v k (hb k hG.1 hG.2)) |> fun h => h.mono o fun _ _ hk => hk.1
theorem Bld.anyG {E : TypeId} {w : World} {base : Nat} {G G' : Fp} {v : Value} {us : List Value} (h : Bld RV E w base G v us) : Bld RV E w base G' v us := h
theorem Bld.setcV {E : TypeId} {w : World} {base : Nat} {G : Fp} {u : Value} {xs : List Value} (h : Bld RV E w base G u xs) {b j : Nat} {v : Value} (h1 : ∀ k, u.ownBlock = some k → k ≠ b) : Bld RV E (w.setCell ⟨b, j, none⟩ v) base G u xs :=
  (Bld.setc okRV (h.anyG (G' := fun _ => False)) h1 fun _ hk => hk.elim).anyG
section
variable {P : Program} {α : Type} {R : Rel α} {e : TypeId} {bytes : Nat}
/-- AT A STEP 'append(v, ..)' of a statement that draws its order. -/
theorem wp_append_bld {w : World} {o : Oper} {a : Act} {Q : Exit → Act → World → Prop} {K : Act → World → Prop} (s x : Operand) (t : TypeId)
    (ho : o.op = .call { callee := .builtin .append, args := #[s, x], argTypes := #[t, t] }) (ok : Ok R) (T : SlTy P t e bytes) (base : Nat) (G : Fp) (v xv : Value) (xs ys : List α) (hs : a.eval s = v) (hx : a.eval x = xv)
    (hown : Bld R e w base G v xs) (hsrc : RdL R w (fun k => some k ≠ v.ownBlock ∧ G k) xv ys)
    (hbytes : (xs.length + ys.length) * bytes ≤ 140737488355328) (hbase : base ≤ w.heap.size)
    (h : ∀ v' w', Bld R e w' base G v' (xs ++ ys) → Below base w w' → w.grownBy w' v.ownBlock → (v'.ownBlock = v.ownBlock ∨ v'.ownBlock = some w.heap.size) → K (a.put o.dst v') w') : Oper.wp P o a w K Q := by
  obtain ⟨i, z, ht, hi, hz, hsize, hby, hzs, hpos⟩ := T
  have h63 : xs.length + ys.length ≤ maxLen := by
    have : (xs.length + ys.length) * 1 ≤ (xs.length + ys.length) * bytes := Nat.mul_le_mul_left _ hpos
    unfold maxLen
    omega
  obtain ⟨v', w', hr, h2, h3, h4⟩ := run_append_bld (P := P) w ok base t o.type e i z bytes ht hi hz hsize hby hzs G v xv xs ys hown hsrc h63 hbytes hbase
  unfold Oper.wp execOp
  simp only [ho, resolve, invoke, builtin, Sem.run_bind, Sem.run_pure, Result.andThen_ok, List.map_toArray, List.map_cons, List.map_nil, hs, hx, hr]
  exact h v' w' h2 ((Below.refl base w).grown h3 hbase fun k hk => (hown.blk k hk).1) h3 h4
end
/-- A slice of the call's own, not in block g. -/
def Ow (E : TypeId) (B g : Nat) (us : List Value) : Know := fun w v => Bld RV E w B (fun _ => True) v us ∧ ∀ k, v.ownBlock = some k → k ≠ g
theorem mOw (E : TypeId) (B g : Nat) (us : List Value) : Mono (Ow E B g us) := fun _ _ _ hb h => ⟨h.1.grow okRV hb, h.2⟩
theorem setCell_size (w : World) (p : Addr) (v : Value) : (w.setCell p v).heap.size = w.heap.size := by simp
/-- A box, known whole. -/
def BoxAt (w : World) (b : Nat) (T : TypeId) (cs : List Value) : Prop := w.heap[b]? = some (.cells cs.toArray T)
theorem boxAt_new (w : World) (T : TypeId) (cs : List Value) : BoxAt (w.alloc (.cells cs.toArray T)) w.heap.size T cs := heap_alloc_new w _
section
variable {w w' : World} {b : Nat} {T : TypeId} {cs : List Value}
theorem BoxAt.lt (h : BoxAt w b T cs) : b < w.heap.size := (Array.getElem?_eq_some_iff.1 h).1
theorem BoxAt.keep (h : BoxAt w b T cs) {B : Nat} (hb : Below B w w') (hB : b < B) : BoxAt w' b T cs := (hb.block b hB).trans h
theorem BoxAt.grow (h : BoxAt w b T cs) (hb : Below w.heap.size w w') : BoxAt w' b T cs := h.keep hb h.lt
theorem BoxAt.cell (h : BoxAt w b T cs) (j : Nat) : w.cell? ⟨b, j, none⟩ = cs[j]? := by
  rw [cell_of_row w b j _ _ _ h]
  simp
theorem BoxAt.fr (h : BoxAt w b T cs) (j : Nat) : w.frozen? ⟨b, j, none⟩ = false := frozen_of_row w b j _ _ h
theorem BoxAt.set_ (h : BoxAt w b T cs) (j : Nat) (v : Value) : BoxAt (w.setCell ⟨b, j, none⟩ v) b T (cs.set j v) := by
  unfold BoxAt at h ⊢
  unfold World.setCell
  simp only [Array.getElem?_modify, if_pos, h, Option.map_some]
  simp
theorem BoxAt.far (h : BoxAt w b T cs) {b' j : Nat} {v : Value} (hb : b ≠ b') : BoxAt (w.setCell ⟨b', j, none⟩ v) b T cs := (Below.heap_setCell w ⟨b', j, none⟩ v b hb).trans h
theorem BoxAt.alloc (h : BoxAt w b T cs) (o : Obj) : BoxAt (w.alloc o) b T cs := h.grow (below_alloc w o)
end
/-- A box of two cells: its facts, as the walk wants them. -/
theorem BoxAt.two {w : World} {b : Nat} {T : TypeId} {a0 a1 : Value} (h : BoxAt w b T [a0, a1]) : w.cell? ⟨b, 0, none⟩ = some a0 ∧ w.cell? ⟨b, 1, none⟩ = some a1 ∧ w.frozen? ⟨b, 0, none⟩ = false ∧ w.frozen? ⟨b, 1, none⟩ = false :=
  ⟨h.cell 0, h.cell 1, h.fr 0, h.fr 1⟩
theorem BoxAt.four {w : World} {b : Nat} {T : TypeId} {a0 a1 a2 a3 : Value} (h : BoxAt w b T [a0, a1, a2, a3]) : w.cell? ⟨b, 0, none⟩ = some a0 ∧ w.cell? ⟨b, 1, none⟩ = some a1 ∧ w.cell? ⟨b, 2, none⟩ = some a2 ∧ w.cell? ⟨b, 3, none⟩ = some a3 :=
  ⟨h.cell 0, h.cell 1, h.cell 2, h.cell 3⟩
/-- A box of two cells, stored into whole. -/
def set2 (w : World) (b : Nat) (v0 v1 : Value) : World := (w.setCell ⟨b, 0, none⟩ v0).setCell ⟨b, 1, none⟩ v1
section
variable {w : World} {b b' : Nat} {T : TypeId} {cs : List Value} {a0 a1 v0 v1 : Value}
theorem BoxAt.put2 (h : BoxAt w b T [a0, a1]) : BoxAt (set2 w b v0 v1) b T [v0, v1] := (h.set_ 0 v0).set_ 1 v1
theorem BoxAt.far2 (h : BoxAt w b T cs) (hb : b ≠ b') : BoxAt (set2 w b' v0 v1) b T cs := (h.far hb).far hb
theorem Ok.set2 {α : Type} {R : Rel α} (o : Ok R) {F : Fp} {u : Value} {x : α} (h : R w F u x) (hb : ∀ k, F k → k ≠ b) : R (set2 w b v0 v1) F u x := o.setc (o.setc h hb) hb
theorem Bld.set2 {α : Type} {R : Rel α} (o : Ok R) {E : TypeId} {base : Nat} {G : Fp} {u : Value} {xs : List α} (h : Bld R E w base G u xs) (h1 : ∀ k, u.ownBlock = some k → k ≠ b) (hb : ∀ k, G k → k ≠ b) : Bld R E (set2 w b v0 v1) base G u xs :=
  (h.setc o h1 fun k hk _ => hb k hk).setc o h1 fun k hk _ => hb k hk
theorem RdA.set2 {F : Fp} {u : Value} {a : Arr} (h : RdA w F u a) (hb : ∀ k, F k → k ≠ b) : RdA (set2 w b v0 v1) F u a := by
  obtain ⟨dv, iv, rfl, h1, h2⟩ := h
  exact ⟨dv, iv, rfl, okBBB.set2 h1 hb, okIs.set2 h2 hb⟩
theorem below_set2 {B : Nat} (hb : B ≤ b) : Below B w (set2 w b v0 v1) := ((Below.refl B w).setCell (p := ⟨b, 0, none⟩) hb v0).setCell (p := ⟨b, 1, none⟩) hb v1
theorem set2_size : (set2 w b v0 v1).heap.size = w.heap.size := by unfold set2; rw [setCell_size, setCell_size]
end
/-- Two boxes, one behind the other: what came in, and what goes out. -/
theorem two_boxes (w : World) (v0 v1 : Value) (T : TypeId) :
    BoxAt ((w.alloc (.cells #[v0, v1] T)).alloc (.cells #[.slice none 0 0, .slice none 0 0] T)) w.heap.size T [v0, v1] ∧
    BoxAt ((w.alloc (.cells #[v0, v1] T)).alloc (.cells #[.slice none 0 0, .slice none 0 0] T)) (w.heap.size + 1) T [.slice none 0 0, .slice none 0 0] ∧
    Below w.heap.size w ((w.alloc (.cells #[v0, v1] T)).alloc (.cells #[.slice none 0 0, .slice none 0 0] T)) ∧
    ((w.alloc (.cells #[v0, v1] T)).alloc (.cells #[.slice none 0 0, .slice none 0 0] T)).heap.size = w.heap.size + 2 := by
  have h0 := boxAt_new w T [v0, v1]
  have h1 := below_alloc w (.cells #[v0, v1] T)
  have h2 := boxAt_new (w.alloc (.cells #[v0, v1] T)) T [.slice none 0 0, .slice none 0 0]
  have h3 := below_alloc (w.alloc (.cells #[v0, v1] T)) (.cells #[.slice none 0 0, .slice none 0 0] T)
  rw [alloc_size] at h2
  exact ⟨h0.grow h3, h2, h1.trans (h3.mono h1.size), by rw [alloc_size, alloc_size]⟩
end Go.Proofs.Ytlbnkoahkfhimaa.M

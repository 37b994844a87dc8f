/- A statement that draws its order, whose operations only read, or make memory of their own: one step for each operation, in whatever later world; one way behind it. No program in sight. -/
import Derived.Below
import Derived.Orders
import Derived.WalkKit
import Derived.Test.YtlbnkoahkfhimaaMem
namespace Go.Proofs.Ytlbnkoahkfhimaa.M
set_option linter.unusedVariables false
open Go Go.RowKit

def putL : List Oper → Nat → (Nat → Value) → Act → Act
  | [], _, _, a => a
  | o :: os, i, y, a => putL os (i + 1) y (a.put o.dst (y i))

theorem put_put (a : Act) (d : Option Tmp) (u v : Value) : (a.put d u).put d v = a.put d v := by
  cases d with
  | none => rfl
  | some d =>
    simp only [Act.put]
    congr 1
    apply Array.ext
    · simp
    · intro i h1 h2
      by_cases h : d = i
      · subst h; simp
      · simp
theorem put_same (a : Act) (d : Option Tmp) : a.put d ((d.map fun d => a.tmps.getD d undef).getD undef) = a := by
  cases d with
  | none => rfl
  | some d =>
    simp only [Act.put, Option.map_some, Option.getD_some]
    have : a.tmps.setIfInBounds d (a.tmps.getD d undef) = a.tmps := by
      apply Array.ext
      · simp
      · intro i h1 h2
        by_cases h : d = i
        · subst h
          have h' : d < a.tmps.size := h2
          simp [h']
        · rw [Array.getElem_setIfInBounds_ne h2 h]
    rw [this]
theorem put_swap (a : Act) {d e : Option Tmp} (u v : Value) (h : ∀ t, d = some t → e ≠ some t) : (a.put d u).put e v = (a.put e v).put d u := by
  cases d with
  | none => rfl
  | some d =>
    cases e with
    | none => rfl
    | some e =>
      have hne : d ≠ e := fun hh => h d rfl (by rw [hh])
      simp only [Act.put]
      congr 1
      exact Array.setIfInBounds_comm _ _ hne
theorem putL_swap {d : Option Tmp} {v : Value} {y : Nat → Value} : ∀ (os : List Oper) (k : Nat) (a : Act), (∀ t, d = some t → t ∉ os.filterMap (·.dst)) → (putL os k y a).put d v = putL os k y (a.put d v)
  | [], _, _, _ => rfl
  | o :: os, k, a, h => by
    unfold putL
    rw [putL_swap os (k + 1) _ (fun t ht hm => h t ht (by
      rw [List.filterMap_cons]
      split
      · exact hm
      · exact List.mem_cons_of_mem _ hm))]
    congr 1
    refine put_swap a _ _ fun t ht hd => h t hd ?_
    simp [ht]
theorem putL_congr {y z : Nat → Value} : ∀ (os : List Oper) (k : Nat) (a : Act), (∀ j, k ≤ j → y j = z j) → putL os k y a = putL os k z a
  | [], _, _, _ => rfl
  | o :: os, k, a, h => by
    unfold putL
    rw [h k (Nat.le_refl k)]
    exact putL_congr os (k + 1) _ fun j hj => h j (by omega)
def upd (y : Nat → Value) (i : Nat) (v : Value) (j : Nat) : Value := if j = i then v else y j
theorem putL_put {y : Nat → Value} {v : Value} : ∀ (os : List Oper) (k i : Nat) (a : Act) (o : Oper), (os.filterMap (·.dst)).Nodup → k ≤ i → os[i - k]? = some o → (putL os k y a).put o.dst v = putL os k (upd y i v) a
  | [], _, _, _, _, _, _, h => by simp at h
  | o' :: os, k, i, a, o, hn, hk, h => by
    unfold putL
    have hn' : (os.filterMap (·.dst)).Nodup := by
      rw [List.filterMap_cons] at hn
      split at hn
      · exact hn
      · exact (List.nodup_cons.1 hn).2
    by_cases hi : i = k
    · subst hi
      simp at h
      subst h
      have e1 : upd y i v i = v := by simp [upd]
      rw [e1, putL_congr (y := upd y i v) (z := y) os (i + 1) _ (fun j hj => by simp [upd]; omega)]
      rw [putL_swap os (i + 1) _ (fun t ht hm => by
        rw [List.filterMap_cons, ht] at hn
        exact (List.nodup_cons.1 hn).1 hm), put_put]
    · have e1 : upd y i v k = y k := by simp [upd]; omega
      rw [e1]
      refine putL_put os (k + 1) i _ o hn' (by omega) ?_
      have : i - k = (i - (k + 1)) + 1 := by omega
      rw [this] at h
      simpa using h
theorem putL_start (a : Act) : ∀ (os : List Oper) (k : Nat), putL os k (fun i => ((os[i - k]?).bind fun o => o.dst.map fun d => a.tmps.getD d undef).getD undef) a = a
  | [], _ => rfl
  | o :: os, k => by
    unfold putL
    have e : ((((o :: os)[k - k]?).bind fun o => o.dst.map fun d => a.tmps.getD d undef).getD undef) = (o.dst.map fun d => a.tmps.getD d undef).getD undef := by simp
    simp only []
    rw [e, put_same]
    refine (putL_congr os (k + 1) a fun j hj => ?_).trans (putL_start a os (k + 1))
    have : j - k = (j - (k + 1)) + 1 := by omega
    rw [this]
    simp

/-- The operations that one waits for. -/
def depsOf (o : Oper) : List Nat := (o.after.toList.filter fun e => Region.binds .any e).map (·.on)

section
variable (P : Program) (Q : Exit → Act → World → Prop) (ops : Array Oper) (a0 : Act) (w0 : World) (V : Nat → World → Value → Prop)
def StepAt (i : Nat) (o : Oper) : Prop :=
  ∀ (y : Nat → Value) (w : World), Below w0.heap.size w0 w → (∀ j, j ∈ depsOf o → V j w (y j)) →
    ∀ K : Act → World → Prop, (∀ v w', Below w.heap.size w w' → V i w' v → K ((putL ops.toList 0 y a0).put o.dst v) w') →
      if Region.wanted o (yielded ops (putL ops.toList 0 y a0).tmps) = true then Oper.wp P o (putL ops.toList 0 y a0) w K Q else K ((putL ops.toList 0 y a0).put o.dst undef) w
def StepsL : List Oper → Nat → Prop
  | [], _ => True
  | o :: os, i => StepAt P Q ops a0 w0 V i o ∧ StepsL os (i + 1)
end

theorem StepsL.at_ {P : Program} {Q : Exit → Act → World → Prop} {ops : Array Oper} {a0 : Act} {w0 : World} {V : Nat → World → Value → Prop} :
    ∀ (os : List Oper) (k : Nat), StepsL P Q ops a0 w0 V os k → ∀ i o, k ≤ i → os[i - k]? = some o → StepAt P Q ops a0 w0 V i o
  | [], _, _, _, _, _, h => by simp at h
  | o' :: os, k, hs, i, o, hk, h => by
    by_cases hi : i = k
    · subst hi
      simp at h
      subst h
      exact hs.1
    · refine StepsL.at_ os (k + 1) hs.2 i o (by omega) ?_
      have : i - k = (i - (k + 1)) + 1 := by omega
      rw [this] at h
      simpa using h

def backOk (ops : Array Oper) : Bool := (List.range ops.size).all fun i => ((ops[i]?).map fun o => (depsOf o).all fun j => decide (j < i)).getD true
theorem backOk_spec {ops : Array Oper} (h : backOk ops = true) {i : Nat} {o : Oper} (ho : ops[i]? = some o) : ∀ j ∈ depsOf o, j < i := by
  intro j hj
  unfold backOk at h
  rw [List.all_eq_true] at h
  have := h i (by simp; exact (Array.getElem?_eq_some_iff.1 ho).1)
  rw [ho] at this
  simp at this
  exact this j hj
theorem mem_depsOf {o : Oper} {e : Edge} (he : e ∈ o.after) (hb : Region.binds .any e = true) : e.on ∈ depsOf o := by
  unfold depsOf
  rw [List.mem_map]
  exact ⟨e, List.mem_filter.2 ⟨by simpa using he, hb⟩, rfl⟩
theorem of_mem_depsOf {o : Oper} {j : Nat} (h : j ∈ depsOf o) : ∃ e, e ∈ o.after ∧ Region.binds .any e = true ∧ e.on = j := by
  unfold depsOf at h
  rw [List.mem_map] at h
  obtain ⟨e, he, hj⟩ := h
  rw [List.mem_filter] at he
  exact ⟨e, by simpa using he.1, he.2, hj⟩

theorem getD_lt (l : Array Bool) (i : Nat) (d : Bool) (h : i < l.size) : l.getD i d = l[i] := by simp [h]

/-- Whichever order is drawn. -/
theorem wpAny_steps {P : Program} {Q : Exit → Act → World → Prop} {ops : Array Oper} {a0 : Act} {w0 : World} {V : Nat → World → Value → Prop}
    (hd : (ops.toList.filterMap (·.dst)).Nodup) (hb : backOk ops = true)
    (hmono : ∀ i w w' v, Below w.heap.size w w' → V i w v → V i w' v)
    (steps : ∀ i o, ops[i]? = some o → StepAt P Q ops a0 w0 V i o)
    (fin : ∀ y w, Below w0.heap.size w0 w → (∀ i, i < ops.size → V i w (y i)) → Q .normal (putL ops.toList 0 y a0) w) :
    ∀ (fuel : Nat) (listed : Array Bool) (y : Nat → Value) (w : World), listed.size = ops.size → listed.toList.count false = fuel → Below w0.heap.size w0 w →
      (∀ i, i < ops.size → listed.getD i false = true → V i w (y i)) → wpAny P .any ops Q fuel listed (putL ops.toList 0 y a0) w := by
  have all : ∀ (listed : Array Bool), listed.size = ops.size → Region.ready .any ops listed = [] → ∀ i, i < ops.size → listed.getD i false = true := by
    intro listed hs hr i
    induction i using Nat.strongRecOn with
    | ind i ih =>
      intro hi
      have ho : ops[i]? = some ops[i] := Array.getElem?_eq_getElem hi
      rcases hl : listed.getD i false with _ | _
      · exfalso
        have : i ∈ Region.ready .any ops listed := by
          rw [mem_ready]
          refine ⟨by rw [getD_lt _ _ _ (by omega)] at hl ⊢; exact hl, ops[i], ho, fun e he hbd => ?_⟩
          have hlt := backOk_spec hb ho e.on (mem_depsOf he hbd)
          exact ih e.on hlt (by omega)
        rw [hr] at this
        cases this
      · rfl
  intro fuel
  induction fuel with
  | zero =>
    intro listed y w hs hc hw hV
    have hl : ∀ i, i < ops.size → listed.getD i false = true := by
      intro i hi
      rw [getD_lt _ _ _ (by omega)]
      rcases h : listed[i]'(by omega) with _ | _
      · exfalso
        have hm : false ∈ listed.toList := by rw [← h]; exact Array.mem_def.1 (Array.getElem_mem _)
        have := List.count_pos_iff.2 hm
        omega
      · rfl
    refine ⟨?_, fin y w hw fun i hi => hV i hi (hl i hi)⟩
    apply List.eq_nil_iff_forall_not_mem.2
    intro j hj
    rw [mem_ready] at hj
    obtain ⟨h0, o, ho, _⟩ := hj
    have hj' : j < ops.size := (Array.getElem?_eq_some_iff.1 ho).1
    have := hl j hj'
    rw [getD_lt _ _ _ (by omega)] at this h0
    rw [this] at h0
    cases h0
  | succ fuel ih =>
    intro listed y w hs hc hw hV
    refine ⟨fun hr => fin y w hw fun i hi => hV i hi (all listed hs hr i hi), fun i hi => ?_⟩
    rw [mem_ready] at hi
    obtain ⟨h0, o, ho, hdeps⟩ := hi
    have hlt : i < ops.size := (Array.getElem?_eq_some_iff.1 ho).1
    have h0' : listed[i]'(by omega) = false := by rw [getD_lt _ _ _ (by omega)] at h0; exact h0
    have st := steps i o ho y w hw (fun j hj => by
      obtain ⟨e, he, hbd, rfl⟩ := of_mem_depsOf hj
      have hl := hdeps e he hbd
      exact hV e.on (Nat.lt_trans (backOk_spec hb ho e.on hj) hlt) hl)
      (wpAny P .any ops Q fuel (listed.setIfInBounds i true)) (fun v w' hb' hv => by
        rw [putL_put ops.toList 0 i a0 o hd (Nat.zero_le _) (by simpa using ho)]
        refine ih _ _ _ (by simpa using hs) ?_ (hw.trans (hb'.mono hw.size)) fun j hj hl => ?_
        · rw [Array.toList_setIfInBounds, List.count_set (by simpa using by omega)]
          simp [h0', hc]
        · by_cases hji : j = i
          · subst hji
            simpa [upd] using hv
          · have e1 : upd y i v j = y j := by simp [upd, hji]
            rw [e1]
            refine hmono j w w' _ hb' (hV j hj ?_)
            rwa [getD_set_ne false (Ne.symm hji)] at hl)
    unfold wpOp
    simp only [ho]
    split at st
    · rename_i hwn
      rw [if_pos hwn]
      exact .inl st
    · rename_i hwn
      rw [if_neg hwn]
      exact st

/-- THE LAW FOR A REGION THAT DRAWS. -/
theorem wp_region_all {P : Program} {Q : Exit → Act → World → Prop} {id : Nat} {ops : Array Oper} {a0 : Act} {w0 : World} (V : Nat → World → Value → Prop)
    (hm : P.follows .mixedOrders = true) (hd : decide (ops.toList.filterMap (·.dst)).Nodup = true) (hb : backOk ops = true)
    (hmono : ∀ i w w' v, Below w.heap.size w w' → V i w v → V i w' v)
    (steps : StepsL P Q ops a0 w0 V ops.toList 0)
    (fin : ∀ y w, Below w0.heap.size w0 w → (∀ i, i < ops.size → V i w (y i)) → Q .normal (putL ops.toList 0 y a0) w) : (Code.region id ops true).wp P Q a0 w0 := by
  refine wp_region_any hm ?_
  have h := wpAny_steps (P := P) (Q := Q) (ops := ops) (a0 := a0) (w0 := w0) (V := V) (of_decide_eq_true hd) hb hmono (fun i o ho => steps.at_ ops.toList 0 i o (Nat.zero_le _) (by simpa using ho))
    fin ops.size (Array.replicate ops.size false)
    (fun i => ((ops.toList[i - 0]?).bind fun o => o.dst.map fun d => a0.tmps.getD d undef).getD undef) w0.drew (by simp) (by simp) ((Below.refl _ _).drew) (fun i hi hl => by rw [getD_lt _ _ _ (by simpa using hi)] at hl; simp at hl)
  rw [putL_start a0 ops.toList 0] at h
  exact h

/-! ### what is known of each operation's value, as a list -/
abbrev Know := World → Value → Prop
def Mono (V : Know) : Prop := ∀ w w' v, Below w.heap.size w w' → V w v → V w' v
/-- It is c. -/
def Cv (c : Value) : Know := fun _ v => v = c
/-- Nothing is known. -/
def Tv : Know := fun _ _ => True
theorem mC (c : Value) : Mono (Cv c) := fun _ _ _ _ h => h
theorem mT : Mono Tv := fun _ _ _ _ h => h
/-- It reads as x. -/
def Rv {α : Type} (R : Rel α) (x : α) : Know := fun w v => R w (fun k => k < w.heap.size) v x
theorem mR {α : Type} {R : Rel α} (o : Ok R) (x : α) : Mono (Rv R x) := fun _ _ _ hb h => o.old h hb fun _ hk _ => Nat.lt_of_lt_of_le hk hb.size
def MonoL : List Know → Prop
  | [] => True
  | V :: vs => Mono V ∧ MonoL vs
theorem MonoL.at_ : ∀ (vs : List Know), MonoL vs → ∀ i, Mono (vs.getD i Tv)
  | [], _, i => by simpa using mT
  | V :: vs, h, 0 => h.1
  | V :: vs, h, i + 1 => by simpa using MonoL.at_ vs h.2 i

theorem region_list {P : Program} {Q : Exit → Act → World → Prop} {id : Nat} {ops : Array Oper} {a0 : Act} {w0 : World} (vs : List Know)
    (hm : P.follows .mixedOrders = true) (hd : decide (ops.toList.filterMap (·.dst)).Nodup = true) (hb : backOk ops = true)
    (hmono : MonoL vs)
    (steps : StepsL P Q ops a0 w0 (fun i => vs.getD i Tv) ops.toList 0)
    (fin : ∀ y w, Below w0.heap.size w0 w → (∀ i, i < ops.size → vs.getD i Tv w (y i)) → Q .normal (putL ops.toList 0 y a0) w) : (Code.region id ops true).wp P Q a0 w0 :=
  wp_region_all (fun i => vs.getD i Tv) hm hd hb (fun i w w' v hb hv => MonoL.at_ vs hmono i w w' v hb hv) steps fin
theorem _root_.Go.RowKit.Below.drewN_ (B : Nat) (w : World) (n : Nat) : Below B w (w.drewN n) := ⟨rfl, rfl, rfl, Nat.le_refl _, fun _ _ => rfl⟩
end Go.Proofs.Ytlbnkoahkfhimaa.M

/- A statement that draws its order, stores, and reads a slot that it writes at its end: as the law before, where an operation is told that what waits for it has not been run. No program in sight. -/
import Derived.Test.YtdcmbdghnkgghaaDoorZb
namespace Go.Proofs.YtdcmbdghnkgghaaDoor.M
set_option linter.unusedVariables false
open Go Go.RowKit
/-- Operation j waits for i. -/
def feeds (ops : Array Oper) (i j : Nat) : Bool := ((ops[j]?).map fun o => (depsOf o).contains i).getD false
theorem feeds_spec {ops : Array Oper} {i j : Nat} (h : feeds ops i j = true) : ∃ o, ops[j]? = some o ∧ i ∈ depsOf o := by
  unfold feeds at h
  cases ho : ops[j]? with
  | none => rw [ho] at h; cases h
  | some o => rw [ho] at h; exact ⟨o, rfl, by simpa using h⟩
/-- What a slot held before. -/
def startAt (ops : Array Oper) (a0 : Act) (i : Nat) : Value := ((ops.toList[i - 0]?).bind fun o => o.dst.map fun d => a0.tmps.getD d undef).getD undef
section
variable (P : Program) (Q : Exit → Act → World → Prop) (ops : Array Oper) (a0 : Act) (w0 : World) (B : Nat) (V : Nat → Nat → World → Value → Prop) (S : Nat → World → Prop) (st : List Nat)
def StepAt5 (i : Nat) (o : Oper) : Prop :=
  ∀ (n : Nat) (y : Nat → Value) (w : World), n ≤ st.length → mayBe ops st i n = true → (∀ s, st[s]? = some i → s = n) → Below B w0 w → S n w → (∀ j, j ∈ depsOf o → V j n w (y j)) → (∀ j, feeds ops i j = true → y j = startAt ops a0 j) →
    ∀ K : Act → World → Prop,
      (∀ v w' m, Below B w w' → (if st.contains i then m = n + 1 else m = n) → S m w' → V i m w' v → (∀ j, j ≠ i → ∀ u, V j n w u → V j m w' u) → K ((putL ops.toList 0 y a0).put o.dst v) w') →
      if Region.wanted o (yielded ops (putL ops.toList 0 y a0).tmps) = true then Oper.wp P o (putL ops.toList 0 y a0) w K Q else K ((putL ops.toList 0 y a0).put o.dst undef) w
def StepsL5 : List Oper → Nat → Prop
  | [], _ => True
  | o :: os, i => StepAt5 P Q ops a0 w0 B V S st i o ∧ StepsL5 os (i + 1)
end

theorem StepsL5.at_ {P : Program} {Q : Exit → Act → World → Prop} {ops : Array Oper} {a0 : Act} {w0 : World} {B : Nat} {V : Nat → Nat → World → Value → Prop} {S : Nat → World → Prop} {st : List Nat} :
    ∀ (os : List Oper) (k : Nat), StepsL5 P Q ops a0 w0 B V S st os k → ∀ i o, k ≤ i → os[i - k]? = some o → StepAt5 P Q ops a0 w0 B V S st i o
  | [], _, _, _, _, _, h => by simp at h
  | o' :: os, k, hs, i, o, hk, h => by
    by_cases hi : i = k
    · subst hi
      simp at h
      subst h
      exact hs.1
    · refine StepsL5.at_ os (k + 1) hs.2 i o (by omega) ?_
      have : i - k = (i - (k + 1)) + 1 := by omega
      rw [this] at h
      simpa using h
theorem wpAny_steps5 {P : Program} {Q : Exit → Act → World → Prop} {ops : Array Oper} {a0 : Act} {w0 : World} {B : Nat} {V : Nat → Nat → World → Value → Prop} {S : Nat → World → Prop} {st : List Nat}
    (hd : (ops.toList.filterMap (·.dst)).Nodup) (hb : backOk ops = true) (hline : lineOk ops st = true) (hst : ∀ k ∈ st, k < ops.size)
    (steps : ∀ i o, ops[i]? = some o → StepAt5 P Q ops a0 w0 B V S st i o)
    (fin : ∀ y w, Below B w0 w → S st.length w → (∀ i, i < ops.size → V i st.length w (y i)) → Q .normal (putL ops.toList 0 y a0) w) :
    ∀ (fuel : Nat) (listed : Array Bool) (y : Nat → Value) (w : World) (n : Nat), listed.size = ops.size → listed.toList.count false = fuel → Below B w0 w → n ≤ st.length →
      (∀ s k, st[s]? = some k → (listed.getD k false = true ↔ s < n)) → (∀ k o, ops[k]? = some o → listed.getD k false = true → ∀ j ∈ depsOf o, listed.getD j false = true) → S n w →
      (∀ i, i < ops.size → listed.getD i false = true → V i n w (y i)) → (∀ i, i < ops.size → listed.getD i false = false → y i = startAt ops a0 i) → wpAny P .any ops Q fuel listed (putL ops.toList 0 y a0) w := by
  have all : ∀ (listed : Array Bool), listed.size = ops.size → Region.ready .any ops listed = [] → ∀ i, i < ops.size → listed.getD i false = true := by
    intro listed hs hr i
    induction i using Nat.strongRecOn with
    | ind i ih =>
      intro hi
      have ho : ops[i]? = some ops[i] := Array.getElem?_eq_getElem hi
      rcases hl : listed.getD i false with _ | _
      · exfalso
        have : i ∈ Region.ready .any ops listed := by
          rw [mem_ready]
          refine ⟨by rw [getD_lt _ _ _ (by omega)] at hl ⊢; exact hl, ops[i], ho, fun e he hbd => ?_⟩
          have hlt := backOk_spec hb ho e.on (mem_depsOf he hbd)
          exact ih e.on hlt (by omega)
        rw [hr] at this
        cases this
      · rfl
  have done : ∀ (listed : Array Bool) (y : Nat → Value) (w : World) (n : Nat), Below B w0 w → n ≤ st.length → (∀ s k, st[s]? = some k → (listed.getD k false = true ↔ s < n)) → S n w → (∀ i, i < ops.size → listed.getD i false = true → V i n w (y i)) →
      (∀ i, i < ops.size → listed.getD i false = true) → Q .normal (putL ops.toList 0 y a0) w := by
    intro listed y w n hw hn hpre hS hV hl
    have : n = st.length := by
      rcases Nat.lt_or_ge n st.length with h | h
      · exfalso
        have h1 := (hpre n st[n] (List.getElem?_eq_getElem h)).1 (hl _ (hst _ (List.getElem_mem h)))
        omega
      · omega
    subst this
    exact fin y w hw hS fun i hi => hV i hi (hl i hi)
  intro fuel
  induction fuel with
  | zero =>
    intro listed y w n hs hc hw hn hpre hcl hS hV hU
    have hl : ∀ i, i < ops.size → listed.getD i false = true := by
      intro i hi
      rw [getD_lt _ _ _ (by omega)]
      rcases h : listed[i]'(by omega) with _ | _
      · exfalso
        have hm : false ∈ listed.toList := by rw [← h]; exact Array.mem_def.1 (Array.getElem_mem _)
        have := List.count_pos_iff.2 hm
        omega
      · rfl
    refine ⟨?_, done listed y w n hw hn hpre hS hV hl⟩
    apply List.eq_nil_iff_forall_not_mem.2
    intro j hj
    rw [mem_ready] at hj
    obtain ⟨h0, o, ho, _⟩ := hj
    have hj' : j < ops.size := (Array.getElem?_eq_some_iff.1 ho).1
    have := hl j hj'
    rw [getD_lt _ _ _ (by omega)] at this h0
    rw [this] at h0
    cases h0
  | succ fuel ih =>
    intro listed y w n hs hc hw hn hpre hcl hS hV hU
    refine ⟨fun hr => done listed y w n hw hn hpre hS hV (all listed hs hr), fun i hi => ?_⟩
    rw [mem_ready] at hi
    obtain ⟨h0, o, ho, hdeps⟩ := hi
    have hlt : i < ops.size := (Array.getElem?_eq_some_iff.1 ho).1
    have h0' : listed[i]'(by omega) = false := by rw [getD_lt _ _ _ (by omega)] at h0; exact h0
    have h0f : listed.getD i false = false := by rw [getD_lt _ _ _ (by omega)]; exact h0'
    have hdl : ∀ j ∈ depsOf o, listed.getD j false = true := fun j hj => by
      obtain ⟨e, he, hbd, rfl⟩ := of_mem_depsOf hj
      have hl := hdeps e he hbd
      have hjlt : e.on < ops.size := Nat.lt_trans (backOk_spec hb ho e.on hj) hlt
      rw [getD_lt _ _ _ (by omega)] at hl ⊢
      exact hl
    have hself : ∀ s, st[s]? = some i → s = n := by
      intro s hsi
      have h1 : ¬ s < n := fun h => by
        have := (hpre s i hsi).2 h
        rw [h0f] at this
        cases this
      rcases Nat.eq_zero_or_pos s with hz | hz
      · omega
      · obtain ⟨s', rfl⟩ : ∃ s', s = s' + 1 := ⟨s - 1, by omega⟩
        obtain ⟨k, hk, hkd⟩ := lineOk_spec hline hsi ho
        have := (hpre s' k hk).1 (hdl k hkd)
        omega
    have hmay : mayBe ops st i n = true := by
      unfold mayBe
      rw [List.all_eq_true]
      intro s hsr
      have hsl : s < st.length := by simpa using hsr
      have hsk := List.getElem?_eq_getElem hsl
      rw [hsk]
      simp only [Option.map_some, ho, Option.getD_some, Bool.and_eq_true, Bool.not_eq_true', Bool.and_eq_false_iff, beq_eq_false_iff_ne, decide_eq_false_iff_not]
      refine ⟨?_, ?_⟩
      · by_cases hm : (depsOf o).contains st[s] = true
        · right
          have := (hpre s _ hsk).1 (hdl _ (by simpa using hm))
          omega
        · left
          intro e
          injection e with e
          exact hm e
      · by_cases hm : ((ops[st[s]]?).map fun o => (depsOf o).contains i).getD false = true
        · right
          intro hsn
          have hls := (hpre s _ hsk).2 hsn
          have hks : st[s] < ops.size := hst _ (List.getElem_mem hsl)
          have hko : ops[st[s]]? = some ops[st[s]] := Array.getElem?_eq_getElem hks
          rw [hko] at hm
          have := hcl _ _ hko hls i (by simpa using hm)
          rw [h0f] at this
          cases this
        · left
          intro e
          injection e with e
          exact hm e
    have stp := steps i o ho n y w hn hmay hself hw hS (fun j hj => hV j (Nat.lt_trans (backOk_spec hb ho j hj) hlt) (hdl j hj)) (fun j hj => by
        obtain ⟨oj, hoj, hjd⟩ := feeds_spec hj
        have hjs : j < ops.size := (Array.getElem?_eq_some_iff.1 hoj).1
        cases hlj : listed.getD j false
        · exact hU j hjs hlj
        · have := hcl j oj hoj hlj i hjd
          rw [h0f] at this
          cases this)
      (wpAny P .any ops Q fuel (listed.setIfInBounds i true)) (fun v w' m hb' hm hS' hv htr => by
        rw [putL_put ops.toList 0 i a0 o hd (Nat.zero_le _) (by simpa using ho)]
        have hset : ∀ j, (listed.setIfInBounds i true).getD j false = true ↔ (j = i ∨ listed.getD j false = true) := by
          intro j
          by_cases hji : j = i
          · subst hji
            simp [Array.getD, hs, hlt]
          · rw [getD_set_ne false (Ne.symm hji)]
            simp [hji]
        have hmn : m ≤ st.length ∧ ∀ s k, st[s]? = some k → ((listed.setIfInBounds i true).getD k false = true ↔ s < m) := by
          by_cases hin : st.contains i = true
          · rw [if_pos hin] at hm
            obtain ⟨s0, hs0, hse⟩ := List.getElem_of_mem (show i ∈ st by simpa using hin)
            have e0 : s0 = n := hself s0 (by rw [List.getElem?_eq_getElem hs0, hse])
            refine ⟨by omega, fun s k hk => ?_⟩
            rw [hset, hpre s k hk]
            constructor
            · rintro (rfl | h)
              · have := hself s hk; omega
              · omega
            · intro h
              by_cases hsn : s < n
              · exact .inr hsn
              · left
                have : s = s0 := by omega
                subst this
                rw [List.getElem?_eq_getElem hs0, hse] at hk
                injection hk with hk
                exact hk.symm
          · rw [if_neg hin] at hm
            subst hm
            refine ⟨hn, fun s k hk => ?_⟩
            rw [hset, hpre s k hk]
            constructor
            · rintro (rfl | h)
              · exfalso
                apply hin
                simpa using List.mem_of_getElem? hk
              · exact h
            · exact .inr
        refine ih _ _ _ m (by simpa using hs) ?_ (hw.trans hb') hmn.1 hmn.2 ?_ hS' (fun j hj hl => ?_) (fun j hj hl => ?_)
        · rw [Array.toList_setIfInBounds, List.count_set (by simpa using by omega)]
          simp [h0', hc]
        · intro k ok hk hl j hj
          rw [hset] at hl ⊢
          rcases hl with rfl | hl
          · rw [ho] at hk
            injection hk with hk
            subst hk
            exact .inr (hdl j hj)
          · exact .inr (hcl k ok hk hl j hj)
        · by_cases hji : j = i
          · subst hji
            simpa [upd] using hv
          · have e1 : upd y i v j = y j := by simp [upd, hji]
            rw [e1]
            rw [hset] at hl
            exact htr j hji _ (hV j hj (hl.resolve_left hji))
        · by_cases hji : j = i
          · have := (hset j).2 (.inl hji)
            rw [hl] at this
            cases this
          · have e1 : upd y i v j = y j := by simp [upd, hji]
            rw [e1]
            rw [getD_set_ne false (Ne.symm hji)] at hl
            exact hU j hj hl)
    unfold wpOp
    simp only [ho]
    split at stp
    · rename_i hwn
      rw [if_pos hwn]
      exact .inl stp
    · rename_i hwn
      rw [if_neg hwn]
      exact stp

/-- THE LAW FOR A REGION THAT DRAWS AND STORES. -/
theorem region_two5 {P : Program} {Q : Exit → Act → World → Prop} {id : Nat} {ops : Array Oper} {a0 : Act} {w0 : World} (B : Nat) (vs : List KnowS) (S : Nat → World → Prop) (st : List Nat)
    (hm : P.follows .mixedOrders = true) (hd : decide (ops.toList.filterMap (·.dst)).Nodup = true) (hb : backOk ops = true) (hline : lineOk ops st = true) (hst : st.all (fun k => decide (k < ops.size)) = true)
    (hS0 : S 0 w0.drew) (steps : StepsL5 P Q ops a0 w0 B (fun i n => vs.getD i Tk n) S st ops.toList 0)
    (fin : ∀ y w, Below B w0 w → S st.length w → (∀ i, i < ops.size → vs.getD i Tk st.length w (y i)) → Q .normal (putL ops.toList 0 y a0) w) : (Code.region id ops true).wp P Q a0 w0 := by
  refine wp_region_any hm ?_
  have h := wpAny_steps5 (P := P) (Q := Q) (ops := ops) (a0 := a0) (w0 := w0) (B := B) (V := fun i n => vs.getD i Tk n) (S := S) (st := st) (of_decide_eq_true hd) hb hline (fun k hk => by
      rw [List.all_eq_true] at hst
      simpa using hst k hk) (fun i o ho => steps.at_ ops.toList 0 i o (Nat.zero_le _) (by simpa using ho))
    fin ops.size (Array.replicate ops.size false)
    (fun i => ((ops.toList[i - 0]?).bind fun o => o.dst.map fun d => a0.tmps.getD d undef).getD undef) w0.drew 0 (by simp) (by simp) ((Below.refl _ _).drew) (Nat.zero_le _)
    (fun s k hk => by
      constructor
      · intro h
        have : (Array.replicate ops.size false).getD k false = false := by
          unfold Array.getD
          split
          · simp
          · rfl
        rw [this] at h
        cases h
      · intro h; omega)
    (fun k o ho h => by
      have hk := (Array.getElem?_eq_some_iff.1 ho).1
      rw [getD_lt _ _ _ (by simpa using hk)] at h
      simp at h) hS0 (fun i hi hl => by rw [getD_lt _ _ _ (by simpa using hi)] at hl; simp at hl) (fun i _ _ => rfl)
  rw [putL_start a0 ops.toList 0] at h
  exact h

section
variable (P : Program) (Q : Exit → Act → World → Prop) (ops : Array Oper) (a0 : Act) (w0 : World) (B : Nat) (vs : List KnowS) (S : Nat → World → Prop) (st : List Nat)
/-- An operation that only reads, or makes memory. -/
def StepG6 (i : Nat) (o : Oper) : Prop :=
  ∀ (n : Nat) (y : Nat → Value) (w : World), n ≤ st.length → mayBe ops st i n = true → Below B w0 w → S n w → (∀ j, j ∈ depsOf o → vs.getD j Tk n w (y j)) → (∀ j, feeds ops i j = true → y j = startAt ops a0 j) →
    ∀ K : Act → World → Prop, (∀ v w', Below w.heap.size w w' → vs.getD i Tk n w' v → K ((putL ops.toList 0 y a0).put o.dst v) w') →
      if Region.wanted o (yielded ops (putL ops.toList 0 y a0).tmps) = true then Oper.wp P o (putL ops.toList 0 y a0) w K Q else K ((putL ops.toList 0 y a0).put o.dst undef) w
/-- A store, the n-th. -/
def StepS6 (i : Nat) (o : Oper) (n : Nat) : Prop :=
  ∀ (y : Nat → Value) (w : World), Below B w0 w → S n w → (∀ j, j ∈ depsOf o → vs.getD j Tk n w (y j)) → (∀ j, feeds ops i j = true → y j = startAt ops a0 j) →
    ∀ K : Act → World → Prop, (∀ v w', Below B w w' → S (n + 1) w' → vs.getD i Tk (n + 1) w' v → TransL n (n + 1) w w' vs → K ((putL ops.toList 0 y a0).put o.dst v) w') →
      if Region.wanted o (yielded ops (putL ops.toList 0 y a0).tmps) = true then Oper.wp P o (putL ops.toList 0 y a0) w K Q else K ((putL ops.toList 0 y a0).put o.dst undef) w
def StepsL6 : List Oper → Nat → Prop
  | [], _ => True
  | o :: os, i => (match st.idxOf? i with | some n => StepS6 P Q ops a0 w0 B vs S i o n | none => StepG6 P Q ops a0 w0 B vs S st i o) ∧ StepsL6 os (i + 1)
end
theorem steps_of6 {P : Program} {Q : Exit → Act → World → Prop} {ops : Array Oper} {a0 : Act} {w0 : World} {B : Nat} {vs : List KnowS} {S : Nat → World → Prop} {st : List Nat}
    (hB : B ≤ w0.heap.size) (hmono : MonoLS vs) (hSm : ∀ n, MonoW (S n)) :
    ∀ (os : List Oper) (k : Nat), StepsL6 P Q ops a0 w0 B vs S st os k → StepsL5 P Q ops a0 w0 B (fun i n => vs.getD i Tk n) S st os k
  | [], _, _ => trivial
  | o :: os, k, h => by
    refine ⟨?_, steps_of6 hB hmono hSm os (k + 1) h.2⟩
    intro n y w hn hmay hself hw hS hd hst K hK
    have h1 := h.1
    cases hi : st.idxOf? k with
    | none =>
      rw [hi] at h1
      have hnc : st.contains k = false := by
        rw [List.idxOf?_eq_none_iff] at hi
        simpa using hi
      refine h1 n y w hn hmay hw hS hd hst K fun v w' hb hv => hK v w' n (hb.mono (Nat.le_trans hB hw.size)) (by rw [hnc]; simp) (hSm n _ _ hb hS) hv fun j _ u hu => MonoLS.at_ vs hmono j n _ _ _ hb hu
    | some m =>
      rw [hi] at h1
      have hm : st[m]? = some k := by
        rw [List.idxOf?_eq_some_iff] at hi
        obtain ⟨h1, h2, _⟩ := hi
        rw [List.getElem?_eq_getElem h1]
        simpa using h2
      obtain rfl := hself m hm
      have hnc : st.contains k = true := by simpa using List.mem_of_getElem? hm
      exact h1 y w hw hS hd hst K fun v w' hb hS' hv ht => hK v w' (m + 1) hb (by rw [hnc]; simp) hS' hv fun j _ u hu => TransL.at_ vs ht j u hu
/-- THE LAW, as it is used. -/
theorem region_three6 {P : Program} {Q : Exit → Act → World → Prop} {id : Nat} {ops : Array Oper} {a0 : Act} {w0 : World} (B : Nat) (vs : List KnowS) (S : Nat → World → Prop) (st : List Nat)
    (hm : P.follows .mixedOrders = true) (hd : decide (ops.toList.filterMap (·.dst)).Nodup = true) (hb : backOk ops = true) (hline : lineOk ops st = true) (hst : st.all (fun k => decide (k < ops.size)) = true)
    (hB : B ≤ w0.heap.size) (hmono : MonoLS vs) (hSm : ∀ n, MonoW (S n)) (hS0 : S 0 w0) (steps : StepsL6 P Q ops a0 w0 B vs S st ops.toList 0)
    (fin : ∀ y w, Below B w0 w → S st.length w → (∀ i, i < ops.size → vs.getD i Tk st.length w (y i)) → Q .normal (putL ops.toList 0 y a0) w) : (Code.region id ops true).wp P Q a0 w0 :=
  region_two5 B vs S st hm hd hb hline hst (hSm 0 _ _ ((Below.refl _ _).drew) hS0) (steps_of6 hB hmono hSm _ _ steps) fin
end Go.Proofs.YtdcmbdghnkgghaaDoor.M

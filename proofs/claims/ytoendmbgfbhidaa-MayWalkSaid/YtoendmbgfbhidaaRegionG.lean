/- A statement that draws its order, stores, and makes memory of which a store tells: as XRegion2, with a ghost that a stage's step may choose (the block that was made). No program in sight. -/
import Derived.Test.YtoendmbgfbhidaaZb
namespace Go.Proofs.Ytoendmbgfbhidaa.M
set_option linter.unusedVariables false
open Go Go.RowKit
section
variable {G : Type} (P : Program) (Q : Exit → Act → World → Prop) (ops : Array Oper) (a0 : Act) (w0 : World) (B : Nat) (V : G → Nat → Nat → World → Value → Prop) (S : G → Nat → World → Prop) (st : List Nat)
def StepAtG (i : Nat) (o : Oper) : Prop :=
  ∀ (g : G) (n : Nat) (y : Nat → Value) (w : World), n ≤ st.length → mayBe ops st i n = true → (∀ s, st[s]? = some i → s = n) → Below B w0 w → S g n w → (∀ j, j ∈ depsOf o → V g j n w (y j)) →
    ∀ K : Act → World → Prop,
      (∀ v w' m g', Below B w w' → (if st.contains i then m = n + 1 else m = n) → S g' m w' → V g' i m w' v → (∀ j, j ≠ i → ∀ u, V g j n w u → V g' j m w' u) → K ((putL ops.toList 0 y a0).put o.dst v) w') →
      if Region.wanted o (yielded ops (putL ops.toList 0 y a0).tmps) = true then Oper.wp P o (putL ops.toList 0 y a0) w K Q else K ((putL ops.toList 0 y a0).put o.dst undef) w
def StepsLG : List Oper → Nat → Prop
  | [], _ => True
  | o :: os, i => StepAtG P Q ops a0 w0 B V S st i o ∧ StepsLG os (i + 1)
end

theorem StepsLG.at_ {P : Program} {Q : Exit → Act → World → Prop} {ops : Array Oper} {a0 : Act} {w0 : World} {B : Nat} {G : Type} {V : G → Nat → Nat → World → Value → Prop} {S : G → Nat → World → Prop} {st : List Nat} :
    ∀ (os : List Oper) (k : Nat), StepsLG P Q ops a0 w0 B V S st os k → ∀ i o, k ≤ i → os[i - k]? = some o → StepAtG P Q ops a0 w0 B V S st i o
  | [], _, _, _, _, _, h => by simp at h
  | o' :: os, k, hs, i, o, hk, h => by
    by_cases hi : i = k
    · subst hi
      simp at h
      subst h
      exact hs.1
    · refine StepsLG.at_ os (k + 1) hs.2 i o (by omega) ?_
      have : i - k = (i - (k + 1)) + 1 := by omega
      rw [this] at h
      simpa using h
theorem wpAny_stepsG {P : Program} {Q : Exit → Act → World → Prop} {ops : Array Oper} {a0 : Act} {w0 : World} {B : Nat} {G : Type} {V : G → Nat → Nat → World → Value → Prop} {S : G → Nat → World → Prop} {st : List Nat}
    (hd : (ops.toList.filterMap (·.dst)).Nodup) (hb : backOk ops = true) (hline : lineOk ops st = true) (hst : ∀ k ∈ st, k < ops.size)
    (steps : ∀ i o, ops[i]? = some o → StepAtG P Q ops a0 w0 B V S st i o)
    (fin : ∀ g y w, Below B w0 w → S g st.length w → (∀ i, i < ops.size → V g i st.length w (y i)) → Q .normal (putL ops.toList 0 y a0) w) :
    ∀ (fuel : Nat) (listed : Array Bool) (y : Nat → Value) (w : World) (n : Nat) (g : G), listed.size = ops.size → listed.toList.count false = fuel → Below B w0 w → n ≤ st.length →
      (∀ s k, st[s]? = some k → (listed.getD k false = true ↔ s < n)) → (∀ k o, ops[k]? = some o → listed.getD k false = true → ∀ j ∈ depsOf o, listed.getD j false = true) → S g n w →
      (∀ i, i < ops.size → listed.getD i false = true → V g i n w (y i)) → wpAny P .any ops Q fuel listed (putL ops.toList 0 y a0) w := by
  have all : ∀ (listed : Array Bool), listed.size = ops.size → Region.ready .any ops listed = [] → ∀ i, i < ops.size → listed.getD i false = true := by
    intro listed hs hr i
    induction i using Nat.strongRecOn with
    | ind i ih =>
      intro hi
      have ho : ops[i]? = some ops[i] := Array.getElem?_eq_getElem hi
      rcases hl : listed.getD i false with _ | _
      · exfalso
        have : i ∈ Region.ready .any ops listed := by
          rw [mem_ready]
          refine ⟨by rw [getD_lt _ _ _ (by omega)] at hl ⊢; exact hl, ops[i], ho, fun e he hbd => ?_⟩
          have hlt := backOk_spec hb ho e.on (mem_depsOf he hbd)
          exact ih e.on hlt (by omega)
        rw [hr] at this
        cases this
      · rfl
  have done : ∀ (listed : Array Bool) (y : Nat → Value) (w : World) (n : Nat) (g : G), Below B w0 w → n ≤ st.length → (∀ s k, st[s]? = some k → (listed.getD k false = true ↔ s < n)) → S g n w → (∀ i, i < ops.size → listed.getD i false = true → V g i n w (y i)) →
      (∀ i, i < ops.size → listed.getD i false = true) → Q .normal (putL ops.toList 0 y a0) w := by
    intro listed y w n g hw hn hpre hS hV hl
    have : n = st.length := by
      rcases Nat.lt_or_ge n st.length with h | h
      · exfalso
        have h1 := (hpre n st[n] (List.getElem?_eq_getElem h)).1 (hl _ (hst _ (List.getElem_mem h)))
        omega
      · omega
    subst this
    exact fin g y w hw hS fun i hi => hV i hi (hl i hi)
  intro fuel
  induction fuel with
  | zero =>
    intro listed y w n g hs hc hw hn hpre hcl hS hV
    have hl : ∀ i, i < ops.size → listed.getD i false = true := by
      intro i hi
      rw [getD_lt _ _ _ (by omega)]
      rcases h : listed[i]'(by omega) with _ | _
      · exfalso
        have hm : false ∈ listed.toList := by rw [← h]; exact Array.mem_def.1 (Array.getElem_mem _)
        have := List.count_pos_iff.2 hm
        omega
      · rfl
    refine ⟨?_, done listed y w n g hw hn hpre hS hV hl⟩
    apply List.eq_nil_iff_forall_not_mem.2
    intro j hj
    rw [mem_ready] at hj
    obtain ⟨h0, o, ho, _⟩ := hj
    have hj' : j < ops.size := (Array.getElem?_eq_some_iff.1 ho).1
    have := hl j hj'
    rw [getD_lt _ _ _ (by omega)] at this h0
    rw [this] at h0
    cases h0
  | succ fuel ih =>
    intro listed y w n g hs hc hw hn hpre hcl hS hV
    refine ⟨fun hr => done listed y w n g hw hn hpre hS hV (all listed hs hr), fun i hi => ?_⟩
    rw [mem_ready] at hi
    obtain ⟨h0, o, ho, hdeps⟩ := hi
    have hlt : i < ops.size := (Array.getElem?_eq_some_iff.1 ho).1
    have h0' : listed[i]'(by omega) = false := by rw [getD_lt _ _ _ (by omega)] at h0; exact h0
    have h0f : listed.getD i false = false := by rw [getD_lt _ _ _ (by omega)]; exact h0'
    have hdl : ∀ j ∈ depsOf o, listed.getD j false = true := fun j hj => by
      obtain ⟨e, he, hbd, rfl⟩ := of_mem_depsOf hj
      have hl := hdeps e he hbd
      have hjlt : e.on < ops.size := Nat.lt_trans (backOk_spec hb ho e.on hj) hlt
      rw [getD_lt _ _ _ (by omega)] at hl ⊢
      exact hl
    have hself : ∀ s, st[s]? = some i → s = n := by
      intro s hsi
      have h1 : ¬ s < n := fun h => by
        have := (hpre s i hsi).2 h
        rw [h0f] at this
        cases this
      rcases Nat.eq_zero_or_pos s with hz | hz
      · omega
      · obtain ⟨s', rfl⟩ : ∃ s', s = s' + 1 := ⟨s - 1, by omega⟩
        obtain ⟨k, hk, hkd⟩ := lineOk_spec hline hsi ho
        have := (hpre s' k hk).1 (hdl k hkd)
        omega
    have hmay : mayBe ops st i n = true := by
      unfold mayBe
      rw [List.all_eq_true]
      intro s hsr
      have hsl : s < st.length := by simpa using hsr
      have hsk := List.getElem?_eq_getElem hsl
      rw [hsk]
      simp only [Option.map_some, ho, Option.getD_some, Bool.and_eq_true, Bool.not_eq_true', Bool.and_eq_false_iff, beq_eq_false_iff_ne, decide_eq_false_iff_not]
      refine ⟨?_, ?_⟩
      · by_cases hm : (depsOf o).contains st[s] = true
        · right
          have := (hpre s _ hsk).1 (hdl _ (by simpa using hm))
          omega
        · left
          intro e
          injection e with e
          exact hm e
      · by_cases hm : ((ops[st[s]]?).map fun o => (depsOf o).contains i).getD false = true
        · right
          intro hsn
          have hls := (hpre s _ hsk).2 hsn
          have hks : st[s] < ops.size := hst _ (List.getElem_mem hsl)
          have hko : ops[st[s]]? = some ops[st[s]] := Array.getElem?_eq_getElem hks
          rw [hko] at hm
          have := hcl _ _ hko hls i (by simpa using hm)
          rw [h0f] at this
          cases this
        · left
          intro e
          injection e with e
          exact hm e
    have stp := steps i o ho g n y w hn hmay hself hw hS (fun j hj => hV j (Nat.lt_trans (backOk_spec hb ho j hj) hlt) (hdl j hj))
      (wpAny P .any ops Q fuel (listed.setIfInBounds i true)) (fun v w' m g' hb' hm hS' hv htr => by
        rw [putL_put ops.toList 0 i a0 o hd (Nat.zero_le _) (by simpa using ho)]
        have hset : ∀ j, (listed.setIfInBounds i true).getD j false = true ↔ (j = i ∨ listed.getD j false = true) := by
          intro j
          by_cases hji : j = i
          · subst hji
            simp [Array.getD, hs, hlt]
          · rw [getD_set_ne false (Ne.symm hji)]
            simp [hji]
        have hmn : m ≤ st.length ∧ ∀ s k, st[s]? = some k → ((listed.setIfInBounds i true).getD k false = true ↔ s < m) := by
          by_cases hin : st.contains i = true
          · rw [if_pos hin] at hm
            obtain ⟨s0, hs0, hse⟩ := List.getElem_of_mem (show i ∈ st by simpa using hin)
            have e0 : s0 = n := hself s0 (by rw [List.getElem?_eq_getElem hs0, hse])
            refine ⟨by omega, fun s k hk => ?_⟩
            rw [hset, hpre s k hk]
            constructor
            · rintro (rfl | h)
              · have := hself s hk; omega
              · omega
            · intro h
              by_cases hsn : s < n
              · exact .inr hsn
              · left
                have : s = s0 := by omega
                subst this
                rw [List.getElem?_eq_getElem hs0, hse] at hk
                injection hk with hk
                exact hk.symm
          · rw [if_neg hin] at hm
            subst hm
            refine ⟨hn, fun s k hk => ?_⟩
            rw [hset, hpre s k hk]
            constructor
            · rintro (rfl | h)
              · exfalso
                apply hin
                simpa using List.mem_of_getElem? hk
              · exact h
            · exact .inr
        refine ih _ _ _ m g' (by simpa using hs) ?_ (hw.trans hb') hmn.1 hmn.2 ?_ hS' fun j hj hl => ?_
        · rw [Array.toList_setIfInBounds, List.count_set (by simpa using by omega)]
          simp [h0', hc]
        · intro k ok hk hl j hj
          rw [hset] at hl ⊢
          rcases hl with rfl | hl
          · rw [ho] at hk
            injection hk with hk
            subst hk
            exact .inr (hdl j hj)
          · exact .inr (hcl k ok hk hl j hj)
        · by_cases hji : j = i
          · subst hji
            simpa [upd] using hv
          · have e1 : upd y i v j = y j := by simp [upd, hji]
            rw [e1]
            rw [hset] at hl
            exact htr j hji _ (hV j hj (hl.resolve_left hji)))
    unfold wpOp
    simp only [ho]
    split at stp
    · rename_i hwn
      rw [if_pos hwn]
      exact .inl stp
    · rename_i hwn
      rw [if_neg hwn]
      exact stp

/-- THE LAW FOR A REGION THAT DRAWS AND STORES. -/
theorem region_twoG {P : Program} {Q : Exit → Act → World → Prop} {id : Nat} {ops : Array Oper} {a0 : Act} {w0 : World} {G : Type} (B : Nat) (vs : G → List KnowS) (S : G → Nat → World → Prop) (st : List Nat)
    (hm : P.follows .mixedOrders = true) (hd : decide (ops.toList.filterMap (·.dst)).Nodup = true) (hb : backOk ops = true) (hline : lineOk ops st = true) (hst : st.all (fun k => decide (k < ops.size)) = true)
    (g0 : G) (hS0 : S g0 0 w0.drew) (steps : StepsLG P Q ops a0 w0 B (fun g i n => (vs g).getD i Tk n) S st ops.toList 0)
    (fin : ∀ g y w, Below B w0 w → S g st.length w → (∀ i, i < ops.size → (vs g).getD i Tk st.length w (y i)) → Q .normal (putL ops.toList 0 y a0) w) : (Code.region id ops true).wp P Q a0 w0 := by
  refine wp_region_any hm ?_
  have h := wpAny_stepsG (P := P) (Q := Q) (ops := ops) (a0 := a0) (w0 := w0) (B := B) (V := fun g i n => (vs g).getD i Tk n) (S := S) (st := st) (of_decide_eq_true hd) hb hline (fun k hk => by
      rw [List.all_eq_true] at hst
      simpa using hst k hk) (fun i o ho => steps.at_ ops.toList 0 i o (Nat.zero_le _) (by simpa using ho))
    fin ops.size (Array.replicate ops.size false)
    (fun i => ((ops.toList[i - 0]?).bind fun o => o.dst.map fun d => a0.tmps.getD d undef).getD undef) w0.drew 0 g0 (by simp) (by simp) ((Below.refl _ _).drew) (Nat.zero_le _)
    (fun s k hk => by
      constructor
      · intro h
        have : (Array.replicate ops.size false).getD k false = false := by
          unfold Array.getD
          split
          · simp
          · rfl
        rw [this] at h
        cases h
      · intro h; omega)
    (fun k o ho h => by
      have hk := (Array.getElem?_eq_some_iff.1 ho).1
      rw [getD_lt _ _ _ (by simpa using hk)] at h
      simp at h) hS0 (fun i hi hl => by rw [getD_lt _ _ _ (by simpa using hi)] at hl; simp at hl)
  rw [putL_start a0 ops.toList 0] at h
  exact h

/-- All that is known of the others goes on. -/
def TransLG (n m : Nat) (w w' : World) : List KnowS → List KnowS → Prop
  | [], [] => True
  | V :: vs, V' :: vs' => (∀ u, V n w u → V' m w' u) ∧ TransLG n m w w' vs vs'
  | _, _ => False
theorem TransLG.at_ {n m : Nat} {w w' : World} : ∀ (vs vs' : List KnowS), TransLG n m w w' vs vs' → ∀ j u, vs.getD j Tk n w u → vs'.getD j Tk m w' u
  | [], [], _, j, u, _ => by simp [Tk, Tv]
  | V :: vs, V' :: vs', h, 0, u, hu => by simpa using h.1 u (by simpa using hu)
  | V :: vs, V' :: vs', h, j + 1, u, hu => by simpa using TransLG.at_ vs vs' h.2 j u (by simpa using hu)
  | [], _ :: _, h, _, _, _ => h.elim
  | _ :: _, [], h, _, _, _ => h.elim
section
variable (P : Program) (Q : Exit → Act → World → Prop) (ops : Array Oper) (a0 : Act) (w0 : World) (B : Nat) {G : Type} (vs : G → List KnowS) (S : G → Nat → World → Prop) (st : List Nat)
/-- An operation that only reads, or makes memory. -/
def StepGG (i : Nat) (o : Oper) : Prop :=
  ∀ (g : G) (n : Nat) (y : Nat → Value) (w : World), n ≤ st.length → mayBe ops st i n = true → Below B w0 w → S g n w → (∀ j, j ∈ depsOf o → (vs g).getD j Tk n w (y j)) →
    ∀ K : Act → World → Prop, (∀ v w', Below w.heap.size w w' → (vs g).getD i Tk n w' v → K ((putL ops.toList 0 y a0).put o.dst v) w') →
      if Region.wanted o (yielded ops (putL ops.toList 0 y a0).tmps) = true then Oper.wp P o (putL ops.toList 0 y a0) w K Q else K ((putL ops.toList 0 y a0).put o.dst undef) w
/-- A store, the n-th. -/
def StepSG (i : Nat) (o : Oper) (n : Nat) : Prop :=
  ∀ (g : G) (y : Nat → Value) (w : World), Below B w0 w → S g n w → (∀ j, j ∈ depsOf o → (vs g).getD j Tk n w (y j)) →
    ∀ K : Act → World → Prop, (∀ v w' g', Below B w w' → S g' (n + 1) w' → (vs g').getD i Tk (n + 1) w' v → TransLG n (n + 1) w w' (vs g) (vs g') → K ((putL ops.toList 0 y a0).put o.dst v) w') →
      if Region.wanted o (yielded ops (putL ops.toList 0 y a0).tmps) = true then Oper.wp P o (putL ops.toList 0 y a0) w K Q else K ((putL ops.toList 0 y a0).put o.dst undef) w
def StepsL3G : List Oper → Nat → Prop
  | [], _ => True
  | o :: os, i => (match st.idxOf? i with | some n => StepSG P Q ops a0 w0 B vs S i o n | none => StepGG P Q ops a0 w0 B vs S st i o) ∧ StepsL3G os (i + 1)
end
theorem steps_ofG {P : Program} {Q : Exit → Act → World → Prop} {ops : Array Oper} {a0 : Act} {w0 : World} {B : Nat} {G : Type} {vs : G → List KnowS} {S : G → Nat → World → Prop} {st : List Nat}
    (hB : B ≤ w0.heap.size) (hmono : ∀ g, MonoLS (vs g)) (hSm : ∀ g n, MonoW (S g n)) :
    ∀ (os : List Oper) (k : Nat), StepsL3G P Q ops a0 w0 B vs S st os k → StepsLG P Q ops a0 w0 B (fun g i n => (vs g).getD i Tk n) S st os k
  | [], _, _ => trivial
  | o :: os, k, h => by
    refine ⟨?_, steps_ofG hB hmono hSm os (k + 1) h.2⟩
    intro g n y w hn hmay hself hw hS hd K hK
    have h1 := h.1
    cases hi : st.idxOf? k with
    | none =>
      rw [hi] at h1
      have hnc : st.contains k = false := by
        rw [List.idxOf?_eq_none_iff] at hi
        simpa using hi
      refine h1 g n y w hn hmay hw hS hd K fun v w' hb hv => hK v w' n g (hb.mono (Nat.le_trans hB hw.size)) (by rw [hnc]; simp) (hSm g n _ _ hb hS) hv fun j _ u hu => MonoLS.at_ (vs g) (hmono g) j n _ _ _ hb hu
    | some m =>
      rw [hi] at h1
      have hm : st[m]? = some k := by
        rw [List.idxOf?_eq_some_iff] at hi
        obtain ⟨h1, h2, _⟩ := hi
        rw [List.getElem?_eq_getElem h1]
        simpa using h2
      obtain rfl := hself m hm
      have hnc : st.contains k = true := by simpa using List.mem_of_getElem? hm
      exact h1 g y w hw hS hd K fun v w' g' hb hS' hv ht => hK v w' (m + 1) g' hb (by rw [hnc]; simp) hS' hv fun j _ u hu => TransLG.at_ _ _ ht j u hu
/-- THE LAW, as it is used. -/
theorem region_ghost {P : Program} {Q : Exit → Act → World → Prop} {id : Nat} {ops : Array Oper} {a0 : Act} {w0 : World} (B : Nat) {G : Type} (vs : G → List KnowS) (S : G → Nat → World → Prop) (st : List Nat)
    (hm : P.follows .mixedOrders = true) (hd : decide (ops.toList.filterMap (·.dst)).Nodup = true) (hb : backOk ops = true) (hline : lineOk ops st = true) (hst : st.all (fun k => decide (k < ops.size)) = true)
    (hB : B ≤ w0.heap.size) (hmono : ∀ g, MonoLS (vs g)) (hSm : ∀ g n, MonoW (S g n)) (g0 : G) (hS0 : S g0 0 w0) (steps : StepsL3G P Q ops a0 w0 B vs S st ops.toList 0)
    (fin : ∀ g y w, Below B w0 w → S g st.length w → (∀ i, i < ops.size → (vs g).getD i Tk st.length w (y i)) → Q .normal (putL ops.toList 0 y a0) w) : (Code.region id ops true).wp P Q a0 w0 :=
  region_twoG B vs S st hm hd hb hline hst g0 (hSm g0 0 _ _ ((Below.refl _ _).drew) hS0) (steps_ofG hB hmono hSm _ _ steps) fin
end Go.Proofs.Ytoendmbgfbhidaa.M

/- What mhtop.done computes: the walk. -/
import Derived.Test.YtdcmbdghnkgghaaDoorC22
import Derived.Test.YtdcmbdghnkgghaaDoorC14
import Derived.Test.YtdcmbdghnkgghaaDoorT3
namespace Go.Proofs.YtdcmbdghnkgghaaDoor
set_option linter.unusedVariables false
open Go Go.RowKit M
theorem stepP_good {a : Arr} (hs : Shape a.disks) (hn : a.ints = []) (s : Step) : Shape (stepP a s).1.disks ∧ (stepP a s).1.ints = [] := by
  unfold stepP stepK
  split
  · by_cases he : (planA a.disks s.deed).2 = 0
    · rw [doA_okA he]; exact ⟨putTo_shape hs _ (intOk_plan hs he).2.2.2 _, rfl⟩
    · rw [doA_bad he]; exact ⟨hs, hn⟩
  · split
    · split
      · exact ⟨hs, hn⟩
      · rename_i he
        have he' : (planA a.disks s.deed).2 = 0 := by simpa using he
        have hi := intOk_plan hs he'
        rcases mount_half (.inl rfl) hs hn (i := (planA a.disks s.deed).1) hi.2.1 hi.2.2.2 s.n with e | e
        · simp only [e]; exact ⟨hs, hn⟩
        · simp only [e]; exact ⟨putTo_shape hs _ hi.2.2.2 4, rfl⟩
    · split
      · split
        · exact ⟨hs, hn⟩
        · refine ⟨rot_shape hs _ _ _, ?_⟩
          rcases rot_cases a (s.n / 3) (s.n % 3) s.m with e | ⟨_, _, _, _, _, _, _, _, _, e⟩ <;> rw [e] <;> exact hn
      · split
        · refine ⟨gone_shape' hs _, ?_⟩
          rcases gone_cases a s.n with e | ⟨_, _, _, e⟩ <;> rw [e] <;> exact hn
        · split
          · refine ⟨mend_shape hs _, ?_⟩
            unfold mendA
            split
            · exact hn
            · simp only []
              split
              · exact hn
              · exact hn
          · exact ⟨hs, hn⟩
def stD (d : Deed) : Step := ⟨1, 0, 0, d⟩
/-- The array behind the first k deeds. -/
def doneTo (ds : List Deed) (k : Nat) : Arr := (ds.take k).foldl (fun a d => (stepP a (stD d)).1) newA
theorem doneTo_next {ds : List Deed} {k : Nat} {d : Deed} (h : ds[k]? = some d) : doneTo ds (k + 1) = (stepP (doneTo ds k) (stD d)).1 := by
  have hl := (List.getElem?_eq_some_iff.1 h).1
  have he := (List.getElem?_eq_some_iff.1 h).2
  unfold doneTo
  rw [List.take_succ_eq_append_getElem hl, List.foldl_append, he]
  rfl
theorem doneTo_good (ds : List Deed) (k : Nat) : Shape (doneTo ds k).disks ∧ (doneTo ds k).ints = [] := by
  induction k with
  | zero => exact ⟨good_new.1.shape, rfl⟩
  | succ k ih =>
    by_cases h : k < ds.length
    · rw [doneTo_next (List.getElem?_eq_getElem h)]
      exact stepP_good ih.1 ih.2 _
    · have : doneTo ds (k + 1) = doneTo ds k := by unfold doneTo; rw [List.take_of_length_le (by omega), List.take_of_length_le (by omega)]
      rw [this]; exact ih
/-- Each text is read, and each deed of it is done. -/
def AllOk (ts : List ByteArray) (ds : List Deed) : Prop := ∀ (k : Nat) (t : ByteArray), ts[k]? = some t → ∃ d, ds[k]? = some d ∧ t.size ≤ 1048576 ∧ parseP t.data.toList = (d, 0) ∧ (stepP (doneTo ds k) (stD d)).2 = 0
set_option maxRecDepth 100000 in
set_option maxHeartbeats 1600000 in
theorem top_done (ts : List ByteArray) (ds : List Deed) (v : Value) (F : Fp) (w : World) (h : RdL RV w F v (ts.map Value.string)) (hok : AllOk ts ds) (hv : Vars w) :
    Calls Tryd.prog 33 #[v] w fun e w' => ∃ v', e = .returned (.tuple #[v', .bool true]) ∧ RdA w' (fun k => w.heap.size ≤ k) v' (doneTo ds ts.length) ∧ Below w.heap.size w w' := by
  obtain ⟨A, c, rfl, hlc, hm⟩ := RdL.shape h
  rw [List.length_map] at h hlc ⊢
  unfold maxLen at hm
  have h0 := boxAt_new w 37 [.slice none 0 0, .slice none 0 0]
  have hb0 := below_alloc w (.cells #[.slice none 0 0, .slice none 0 0] 37)
  have hsz0 := alloc_size w (.cells #[.slice none 0 0, .slice none 0 0] 37)
  change BoxAt (w.alloc (.cells #[.slice none 0 0, .slice none 0 0] 37)) _ _ _ at h0
  have HL := Lib.hid h
  have HOK := Lib.hid hok
  have HV := Lib.hid hv
  have hmx : ts.length ≤ 9223372036854775807 := by omega
  clear h hok hv
  go_enter Tryd.func33, Tryd.ntmps33
  go_wp2_with fail
  generalize w.alloc (.cells #[.slice none 0 0, .slice none 0 0] 37) = w1 at *
  refine (array_New _).mono ?_
  rintro e w2 ⟨v2, rfl, hr2, hb2⟩
  obtain ⟨b0, o0, c0, Ai, ci, rfl, _, _, _, _⟩ := RdA_open hr2 good_new.1.shape
  have hal := below_alloc w2 (.cells #[.slice (some ⟨b0, o0, none⟩) 4 c0, .slice Ai newA.ints.length ci] 37)
  have hA := boxAt_new w2 37 [.slice (some ⟨b0, o0, none⟩) 4 c0, .slice Ai newA.ints.length ci]
  have hr3 := hr2.lt.grow hal
  have hb3 := hb2.trans (hal.mono hb2.size)
  have hB := hb0.trans (hb3.mono hb0.size)
  have hZ := h0.grow hb3
  obtain ⟨w3, hw3⟩ : ∃ x, w2.alloc (.cells #[.slice (some ⟨b0, o0, none⟩) 4 c0, .slice Ai newA.ints.length ci] 37) = x := ⟨_, rfl⟩
  change BoxAt (w2.alloc (.cells #[.slice (some ⟨b0, o0, none⟩) 4 c0, .slice Ai newA.ints.length ci] 37)) _ _ _ at hA
  rw [hw3] at hA hr3 hB hZ
  obtain ⟨BA, hBA⟩ : ∃ x, w2.heap.size = x := ⟨_, rfl⟩
  rw [hBA] at hA hr3
  have hge : w.heap.size + 1 ≤ BA := by rw [← hBA, ← hsz0]; exact hb2.size
  have HH := Lib.hid (And.intro hA (And.intro hr3 (And.intro hB (And.intro hZ hge))))
  clear hal hA hr3 hb3 hB hZ hge hr2 hb2 h0 hb0
  go_wp2_with fail
  go_loopw [14] (fun i wr => ∃ (k : Nat), k ≤ ts.length ∧ i = .int .i64 k ∧ (∃ dv iv, BoxAt wr BA 37 [dv, iv] ∧ RdA wr (fun q => w.heap.size + 1 ≤ q ∧ q ≠ BA) (.agg #[dv, iv]) (doneTo ds k)) ∧ BoxAt wr w.heap.size 37 [.slice none 0 0, .slice none 0 0] ∧ Below w.heap.size w wr) (fun i _ => ts.length - (intOf i).toNat)
  case atStart => exact ⟨0, Nat.zero_le _, rfl, ⟨_, _, HH.out.1, HH.out.2.1.mono fun q hq => ⟨by omega, by omega⟩⟩, HH.out.2.2.2.1, HH.out.2.2.1⟩
  case round =>
    obtain ⟨k, hk, rfl, ⟨dv, iv, hA, hR⟩, hZ, hB⟩ := hrel
    obtain ⟨hsk, hik⟩ := doneTo_good ds k
    obtain ⟨b1, o1, c1, A1, c2, hag, _, _, hc11, hc12⟩ := RdA_open hR hsk
    injection hag with hag
    simp only [Array.mk.injEq, List.cons.injEq, and_true] at hag
    obtain ⟨rfl, rfl⟩ := hag
    rw [show (doneTo ds k).ints.length = 0 by rw [hik]; rfl] at hA hR
    by_cases hlt : k < ts.length
    rotate_left
    · obtain rfl : k = ts.length := by omega
      obtain ⟨x0, x1, x2, x3⟩ := hA.two
      obtain ⟨z0, z1, z2, z3⟩ := hZ.two
      have hRb := ret_box (F' := fun k => w.heap.size ≤ k) hZ hB (Nat.le_refl _) hR (fun k hk => by omega) fun k hk => by omega
      have HF := Lib.hid hRb
      clear hA hR hZ hB hRb
      go_wp2_with fail
      exact bodyPost_ret (v := .tuple #[.agg #[.slice (some ⟨b1, o1, none⟩) 4 c1, .slice A1 0 c2], .bool true]) (by simp [results, Tryd.results33, go_sem, *]) rfl ⟨_, rfl, HF.out.1, HF.out.2⟩
    obtain ⟨t, ht⟩ : ∃ t, ts[k]? = some t := ⟨_, List.getElem?_eq_getElem hlt⟩
    obtain ⟨d, hd, hts, hpt, hst⟩ := HOK.out k t ht
    obtain ⟨b, off, u, rfl, hFb, hcu, hu⟩ := RdL.at_ (okRVL.grow HL.out hB) (k := k) (by rw [List.length_map]; exact hlt)
    obtain rfl : u = .string t := by
      rw [hu.1, List.getElem_map]
      rw [List.getElem?_eq_getElem hlt] at ht
      injection ht with ht
      rw [ht]
    clear hu ht
    have HK := Lib.hid (And.intro hts (And.intro hpt (And.intro hst hd)))
    have HG := Lib.hid (And.intro hsk hik)
    have HR := Lib.hid (And.intro hA (And.intro hR (And.intro hZ hB)))
    have HVr := Lib.hid (HV.out.grow hB)
    have hszr := hB.size
    clear hts hpt hst hd hsk hik hA hR hZ hB
    go_wp2_with fail
    refine (text_Parse t HK.out.1 _ HVr.out).mono ?_
    rintro e wp ⟨vp, rfl, hdp, hbp⟩
    rw [HK.out.2.1] at hdp ⊢
    obtain ⟨dd, rfl, hdd⟩ := hdp
    obtain ⟨Ad, cd, rfl, _, _⟩ := hdd.shape
    have hal := below_alloc wp (.cells #[.int .i64 d.kind, .int .i64 d.n, .int .i64 d.m, .slice Ad d.data.length cd] 24)
    have hX := boxAt_new wp 24 [.int .i64 d.kind, .int .i64 d.n, .int .i64 d.m, .slice Ad d.data.length cd]
    obtain ⟨wx, hwx⟩ : ∃ x, wp.alloc (.cells #[.int .i64 d.kind, .int .i64 d.n, .int .i64 d.m, .slice Ad d.data.length cd] 24) = x := ⟨_, rfl⟩
    change BoxAt (wp.alloc (.cells #[.int .i64 d.kind, .int .i64 d.n, .int .i64 d.m, .slice Ad d.data.length cd] 24)) _ _ _ at hX
    rw [hwx] at hal hX
    have hbx := hbp.trans (hal.mono hbp.size)
    have hA2 := HR.out.1.grow hbx
    have hR2 := HR.out.2.1.lt.grow hbx
    have hZ2 := HR.out.2.2.1.grow hbx
    have hB2 := HR.out.2.2.2.trans (hbx.mono hszr)
    have hst : RdSt wx (fun k => wr.heap.size ≤ k) (.agg #[.int .i64 1, .int .i64 0, .int .i64 0, .int .i64 d.kind, .int .i64 d.n, .int .i64 d.m, .slice Ad d.data.length cd]) (stD d) := ⟨_, rfl, (by decide : (0 : Int) ≤ 9223372036854775807), okB.grow hdd hal⟩
    obtain ⟨x0, x1, x2, x3⟩ := hA2.two
    obtain ⟨⟨y0, y1, y2, y3⟩, _⟩ := hX.eight
    have H1 := Lib.hid (And.intro hA2 (And.intro hZ2 hB2))
    have HST := Lib.hid (And.intro hR2 hst)
    have HN := Lib.hid (doneTo_next HK.out.2.2.2)
    have hszx := hB2.size
    have hBAx := hA2.lt
    clear hA2 hR2 hZ2 hB2 hX hst hdd hal hbp hbx
    go_wp2_with fail
    refine (play_Do (doneTo ds k) (stD d) _ _ _ _ HST.out.1 HST.out.2 HG.out.1 HG.out.2 (by decide : (-9223372036854775808 : Int) ≤ 0)).mono ?_
    rintro e w4 ⟨v4, rfl, hr4, hb4⟩
    rw [← HN.out] at hr4
    rw [HK.out.2.2.1]
    obtain ⟨hsh4, hi4⟩ := doneTo_good ds (k + 1)
    obtain ⟨b3, o3, c3, A3, c4, rfl, _, _, _, _⟩ := RdA_open hr4 hsh4
    rw [show (doneTo ds (k + 1)).ints.length = 0 by rw [hi4]; rfl] at hr4 ⊢
    have hal4 := below_alloc w4 (.cells #[.slice (some ⟨b3, o3, none⟩) 4 c3, .slice A3 0 c4] 37)
    have hY4 := boxAt_new w4 37 [.slice (some ⟨b3, o3, none⟩) 4 c3, .slice A3 0 c4]
    have hb5 := hb4.trans (hal4.mono hb4.size)
    have hA5 := H1.out.1.grow hb5
    have hZ5 := H1.out.2.1.grow hb5
    have hB5 := H1.out.2.2.trans (hb5.mono H1.out.2.2.size)
    have hr5 := hr4.grow hal4
    have hs4 := hb4.size
    obtain ⟨w5, hw5⟩ : ∃ x, w4.alloc (.cells #[.slice (some ⟨b3, o3, none⟩) 4 c3, .slice A3 0 c4] 37) = x := ⟨_, rfl⟩
    change BoxAt (w4.alloc (.cells #[.slice (some ⟨b3, o3, none⟩) 4 c3, .slice A3 0 c4] 37)) _ _ _ at hY4
    rw [hw5] at hal4 hY4 hA5 hZ5 hB5 hr5
    obtain ⟨p0, p1, p2, p3⟩ := hY4.two
    obtain ⟨q0, q1, q2, q3⟩ := hA5.two
    have hge := HH.out.2.2.2.2
    have f1 : BoxAt (set2 w5 BA (.slice (some ⟨b3, o3, none⟩) 4 c3) (.slice A3 0 c4)) _ _ _ := hA5.put2
    have f2 : RdA (set2 w5 BA (.slice (some ⟨b3, o3, none⟩) 4 c3) (.slice A3 0 c4)) _ _ _ := hr5.set2 (b := BA) fun q hq => by omega
    have f3 : BoxAt (set2 w5 BA (.slice (some ⟨b3, o3, none⟩) 4 c3) (.slice A3 0 c4)) _ _ _ := hZ5.far2 (by omega)
    have f5 := hB5.trans (below_set2 (b := BA) (v0 := .slice (some ⟨b3, o3, none⟩) 4 c3) (v1 := .slice A3 0 c4) (by omega))
    have H := Lib.hid (And.intro f1 (And.intro (f2.mono (F' := fun q => w.heap.size + 1 ≤ q ∧ q ≠ BA) fun q hq => ⟨by omega, by omega⟩) (And.intro f3 f5)))
    clear f1 f2 f3 f5 hal4 hY4 hb5 hA5 hZ5 hB5 hr5 hr4 hb4 hsh4 hi4 x0 x1 x2 x3 y0 y1 y2 y3
    go_wp2_with fail
    go_roundw
    case rel => exact ⟨k + 1, by omega, by go_num, ⟨_, _, H.out.1, H.out.2.1⟩, H.out.2.2.1, H.out.2.2.2⟩
    case measure => simp [intOf]; omega
end Go.Proofs.YtdcmbdghnkgghaaDoor

/- Walk: the law ActTells: of any acts, names, values what is told is what the document tells; they stay. -/
import Derived.Test.YtahckodhnkloeaaGreatDoorKept
import Derived.Test.YtahckodhnkloeaaGreatDoorRefKeys
import Derived.Test.YtahckodhnkloeaaGreatDoorRefOf
import Derived.Test.YtahckodhnkloeaaGreatDoorRefDo
import Derived.Test.YtahckodhnkloeaaGreatDoorRefOne
import Derived.Test.YtahckodhnkloeaaGreatDoorSame
import Derived.Test.YtahckodhnkloeaaGreatDoorOver
import Derived.Test.YtahckodhnkloeaaGreatDoorAwake
import Derived.Lib.QuietBelow
namespace Go.Proofs.YtahckodhnkloeaaGreatDoor
open Go Go.RowKit Go.Sort

theorem great_no_bounds {l : List Act} {ss : List (List UInt8)} (h : greatB l ss = false) : l.length ≤ 40 ∧ (∀ a ∈ l, a.key.length + a.value.length ≤ 120) ∧ ∀ s ∈ ss, s.length ≤ 60 := by
  unfold greatB at h
  simp only [Bool.or_eq_false_iff, List.any_eq_false, decide_eq_true_eq, decide_eq_false_iff_not] at h
  obtain ⟨⟨h1, h2⟩, h3⟩ := h
  refine ⟨by omega, fun a ha => ?_, fun s hs => by have := h2 s hs; omega⟩
  have := h1 a (by rw [List.take_of_length_le (by omega)]; exact ha)
  omega
theorem texts_two (w : World) (s t : ByteArray) : TextsAt (w.alloc (.cells #[.string s, .string t] 9)).heap.size (w.alloc (.cells #[.string s, .string t] 9)) (.slice (some ⟨w.heap.size, 0, none⟩) 2 2) [s.data.toList, t.data.toList] :=
  ⟨_, 2, rfl, Nat.le_refl _, fun i hi => by
    match i, hi with
    | 0, _ => exact ⟨w.heap.size, 0, rfl, by simp, by simp [S]⟩
    | 1, _ => exact ⟨w.heap.size, 0, rfl, by simp, by simp [S]⟩⟩
theorem texts_of_owns {w : World} {base : Nat} {v : Value} {l : List Txt} (h : OwnsTexts base w v l) : TextsAt w.heap.size w v l := by
  rcases h.2 with ⟨rfl, h0⟩ | ⟨g, cap, cur, rfl, _, hg, hcap, _⟩
  · have : l = [] := List.length_eq_zero_iff.1 h0
    subst this
    exact ⟨none, 0, rfl, Nat.le_refl _, fun i hi => by simp at hi⟩
  · refine ⟨_, cap, rfl, hcap, fun i hi => ⟨g, 0, rfl, (Array.getElem?_eq_some_iff.1 hg).1, ?_⟩⟩
    have hc := h.cells (g := g) rfl i (S l[i]) (by simp [hi, S])
    rw [add_zero_addr] at hc
    simpa using hc
theorem acts_of_own {w : World} {base : Nat} {v : Value} {l : List Act} (h : OwnsActs base w v l) : ActsAt w.heap.size w v l := by
  rcases h.2 with ⟨rfl, h0⟩ | ⟨g, cap, cur, hv, _, hg, hcap, hmax, _⟩
  · exact .inl ⟨none, rfl, List.length_eq_zero_iff.1 h0⟩
  · subst hv
    exact .inr ⟨g, 0, cap, rfl, hcap, hmax, (Array.getElem?_eq_some_iff.1 hg).1, acts_of_owns h⟩
/-- What was lent, as acts. -/
theorem lent_acts {w : World} {base g cap : Nat} {l : List Act} (h : w.ownsRow base 51 4 (.slice (some ⟨g, 0, none⟩) (l.length + 12) cap) (l.length + 12) (actCells (l ++ marks 12))) : ActsAt w.heap.size w (.slice (some ⟨g, 0, none⟩) l.length cap) l := by
  have ha := acts_of_owns h
  rcases h.2 with ⟨h0, _⟩ | ⟨g', cap', cur, hv, _, hg, hcap, hmax, _⟩
  · cases h0
  · cases hv
    refine .inr ⟨g, 0, cap, rfl, by omega, hmax, (Array.getElem?_eq_some_iff.1 hg).1, fun i hi => ?_⟩
    have := ha i (by rw [List.length_append, marks_len]; omega)
    rwa [lent_old hi] at this
theorem ReadsAt.mono {w : World} {B B' : Nat} {v : Value} {l : List Rd} (h : ReadsAt B w v l) (hB : B ≤ B') : ReadsAt B' w v l := by
  obtain ⟨ao, cap, h1, h2, h3⟩ := h
  refine ⟨ao, cap, h1, h2, fun i hi => ?_⟩
  obtain ⟨b, off, g1, g2, r⟩ := h3 i hi
  exact ⟨b, off, g1, by omega, r⟩
theorem TextsAt.mono {w : World} {B B' : Nat} {v : Value} {l : List Txt} (h : TextsAt B w v l) (hB : B ≤ B') : TextsAt B' w v l := by
  obtain ⟨ao, cap, h1, h2, h3⟩ := h
  refine ⟨ao, cap, h1, h2, fun i hi => ?_⟩
  obtain ⟨b, off, g1, g2, r⟩ := h3 i hi
  exact ⟨b, off, g1, by omega, r⟩
theorem reads_up {w w' : World} {v : Value} {l : List Rd} (h : ReadsAt w.heap.size w v l) (hb : Below w.heap.size w w') : ReadsAt w'.heap.size w' v l := (h.keeps hb).mono hb.size
theorem texts_up {w w' : World} {v : Value} {l : List Txt} (h : TextsAt w.heap.size w v l) (hb : Below w.heap.size w w') : TextsAt w'.heap.size w' v l := (h.keeps hb).mono hb.size
theorem acts_up {w w' : World} {v : Value} {l : List Act} (h : ActsAt w.heap.size w v l) (hb : Below w.heap.size w w') : ActsAt w'.heap.size w' v l := (h.keeps hb).mono hb.size
/-- Two names in their boxes. -/
structure Boxes (B : Nat) (w : World) (c1 n1 c2 n2 : Int) : Prop where
  a0 : w.cell? ⟨B, 0, none⟩ = some (.int .i64 c1)
  a1 : w.cell? ⟨B, 1, none⟩ = some (.int .i64 n1)
  b0 : w.cell? ⟨B + 1, 0, none⟩ = some (.int .i64 c2)
  b1 : w.cell? ⟨B + 1, 1, none⟩ = some (.int .i64 n2)
  lt : B + 1 < w.heap.size
theorem Boxes.keeps {B : Nat} {w w' : World} {c1 n1 c2 n2 : Int} (h : Boxes B w c1 n1 c2 n2) (hb : Below w.heap.size w w') : Boxes B w' c1 n1 c2 n2 := by
  have hl := h.lt
  exact ⟨(hb.cell (p := ⟨B, 0, none⟩) (show B < w.heap.size by omega)).trans h.a0, (hb.cell (p := ⟨B, 1, none⟩) (show B < w.heap.size by omega)).trans h.a1, (hb.cell (p := ⟨B + 1, 0, none⟩) hl).trans h.b0, (hb.cell (p := ⟨B + 1, 1, none⟩) hl).trans h.b1, Nat.lt_of_lt_of_le hl hb.size⟩
theorem boxes_at (w : World) (c1 n1 c2 n2 : Int) : Boxes w.heap.size ((w.alloc (.cells #[.int .i64 c1, .int .i64 n1] 24)).alloc (.cells #[.int .i64 c2, .int .i64 n2] 24)) c1 n1 c2 n2 :=
  ⟨by simp, by simp, by simp, by simp, by simp⟩
/-- The acts that came in, the copy that was lent, and what was lent with the marks behind it. -/
structure In (l : List Act) (v : Value) (base g cap : Nat) (w : World) : Prop where
  acts : ActsAt w.heap.size w v l
  lent : w.ownsRow base 51 4 (.slice (some ⟨g, 0, none⟩) (l.length + 12) cap) (l.length + 12) (actCells (l ++ marks 12))
theorem In.keeps {l : List Act} {v : Value} {base g cap : Nat} {w w' : World} (h : In l v base g cap w) (hb : Below w.heap.size w w') : In l v base g cap w' := ⟨acts_up h.acts hb, own_keeps h.lent hb⟩

set_option maxRecDepth 100000 in
set_option maxHeartbeats 8000000 in
theorem tells_calls (l : List Act) (hl : l.length ≤ 140737488351232) (hok : ∀ a ∈ l, a.Ok) (v : Value) (is : Bool) (value key : ByteArray) (hvs : value.size ≤ 140737488351232) (hks : key.size ≤ 140737488351232) (c1 n1 c2 n2 : Int) (w : World) (E : Env w) (h : ActsAt w.heap.size w v l) :
    Calls Tryz.prog 3 #[v, .bool is, .string value, .string key, nameV c1 n1, nameV c2 n2] w fun e w' => e = .returned (.bool true) ∧ Below w.heap.size w w' := by
  have HE := Lib.hid E; clear E
  have HA := Lib.hid h
  have Hok := Lib.hid hok; clear hok
  obtain ⟨ao, vcap, rfl, hlc, hcap, _⟩ := acts_slice h
  clear h
  obtain ⟨vt, rfl⟩ : ∃ t : Txt, value = ⟨t.toArray⟩ := ⟨value.data.toList, rfl⟩
  obtain ⟨kt, rfl⟩ : ∃ t : Txt, key = ⟨t.toArray⟩ := ⟨key.data.toList, rfl⟩
  replace hvs : vt.length ≤ 140737488351232 := hvs
  replace hks : kt.length ≤ 140737488351232 := hks
  unfold nameV
  have Hbx := Lib.hid (boxes_at w c1 n1 c2 n2)
  have Hb0 := Lib.hid (up_alloc (up_alloc (Below.refl _ _)) : Below w.heap.size w ((w.alloc (.cells #[.int .i64 c1, .int .i64 n1] 24)).alloc (.cells #[.int .i64 c2, .int .i64 n2] 24)))
  go_enter Tryz.func3, Tryz.ntmps3
  go_wp2_with fail
  generalize ((w.alloc (.cells #[.int .i64 c1, .int .i64 n1] 24)).alloc (.cells #[.int .i64 c2, .int .i64 n2] 24)) = w0 at *
  refine (awake_calls w0 (HE.out.keeps Hb0.out)).mono ?_
  rintro e w1 ⟨rfl, hb1⟩
  replace Hbx := Lib.hid (Hbx.out.keeps hb1)
  have Hb1 := Lib.hid (up_trans Hb0.out hb1); clear hb1 Hb0
  go_wp2_with fail
  have Hbt : Below w1.heap.size w1 (w1.alloc (.cells #[.string ⟨vt.toArray⟩, .string ⟨kt.toArray⟩] 9)) := (Below.refl _ _).alloc (Nat.le_refl _) _
  have hT := Lib.hid (texts_two w1 ⟨vt.toArray⟩ ⟨kt.toArray⟩)
  replace Hbx := Lib.hid (Hbx.out.keeps Hbt)
  replace Hb1 := Lib.hid (up_trans Hb1.out Hbt)
  clear Hbt
  generalize w1.alloc (.cells #[.string ⟨vt.toArray⟩, .string ⟨kt.toArray⟩] 9) = w1 at *
  refine (great_calls l hl Hok.out [vt, kt] (by simp only [List.mem_cons, List.not_mem_nil, or_false]; rintro s (rfl | rfl) <;> assumption) (by simp) _ _ _ (acts_up HA.out Hb1.out) hT.out).mono ?_
  rintro e w2 ⟨rfl, hb2⟩
  replace Hbx := Lib.hid (Hbx.out.keeps hb2)
  have Hb2 := Lib.hid (up_trans Hb1.out hb2); clear hb2 Hb1 hT
  cases hg : greatB l [vt, kt]
  · obtain ⟨g1, g2, _⟩ := great_no_bounds hg
    clear hg
    go_wp2_with fail
    refine (lent_calls l (by omega) _ w2 (acts_up HA.out Hb2.out)).mono ?_
    rintro e w3 ⟨g, cap, rfl, hown3, hb3⟩
    have Hin := Lib.hid (In.mk (acts_up HA.out (up_trans Hb2.out hb3)) hown3)
    replace Hbx := Lib.hid (Hbx.out.keeps hb3)
    have Hb3 := Lib.hid (up_trans Hb2.out hb3); clear hb3 Hb2 hown3
    go_wp2_with fail
    have hbd := (doAll_bounds (vt.length + 140) (by omega) l (begun is vt) (by unfold begun; split <;> simp) (fun a ha => by have := g2 a ha; omega)).1
    have hst0 : (begun is vt).reads = [] := rfl
    rw [hst0] at hbd
    refine (do_calls is vt _ l w3 (HE.out.keeps Hb3.out) hvs (by omega) Hok.out (lent_acts Hin.out.lent)).mono ?_
    rintro e w4 ⟨v4, he4, hown4, hb4⟩
    have HR4 := Lib.hid (reads_of_owns hown4)
    replace Hbx := Lib.hid (Hbx.out.keeps hb4)
    replace Hin := Lib.hid (Hin.out.keeps hb4)
    have Hb4 := Lib.hid (up_trans Hb3.out hb4); clear hb4 Hb3 hown4
    have hrd := refDo_calls is vt (.slice ao l.length vcap) l w4 hvs (by omega) Hok.out (acts_up HA.out Hb4.out)
    generalize doAll (begun is vt) l = st at *
    obtain ⟨after, haf⟩ : ∃ t, (if st.put then st.value else []) = t := ⟨_, rfl⟩
    obtain ⟨pt, hpt⟩ : ∃ b, st.put = b := ⟨_, rfl⟩
    rw [haf, hpt] at he4
    subst he4
    have Haf := Lib.hid haf
    have Hpt := Lib.hid hpt
    have Hrd := Lib.hid hrd
    clear hrd haf hpt
    unfold S at Hrd
    unfold S
    go_wp2_with fail
    refine Hrd.out.mono ?_
    rintro e w5 ⟨v5, he5, hown5, hb5⟩
    rw [Haf.out, Hpt.out] at he5
    subst he5
    clear Hrd Haf Hpt
    unfold S
    have HR5 := Lib.hid (reads_of_owns hown5)
    replace HR4 := Lib.hid (reads_up HR4.out hb5)
    replace Hbx := Lib.hid (Hbx.out.keeps hb5)
    replace Hin := Lib.hid (Hin.out.keeps hb5)
    have Hb5 := Lib.hid (up_trans Hb4.out hb5); clear hb5 Hb4 hown5
    have HE5 := Lib.hid (HE.out.keeps Hb5.out)
    have HA5 := Lib.hid (acts_up HA.out Hb5.out)
    clear HE HA
    go_wp2_with fail
    have k0 := cell_regrown Hbx.out.a0
    have k1 := cell_regrown Hbx.out.a1
    have k2 := cell_regrown Hbx.out.b0
    have k3 := cell_regrown Hbx.out.b1
    have cR : ∀ d os, Calls Tryz.prog 18 #[v4, v5] (grow (redrawn w5 d) os) fun e w'' => e = .returned (.bool true) ∧ ∃ p : Regrown, w'' = grow (redrawn w5 p.d) p.os := fun d os => Calls.regrown_of (sameReads_calls st.reads (by simp at hbd; omega) _ _ _ (reads_up HR4.out (below_regrown w5 d os)) (reads_up HR5.out (below_regrown w5 d os)))
    have cI : ∀ d os, Calls Tryz.prog 19 #[.slice (some ⟨g, 0, none⟩) l.length cap] (grow (redrawn w5 d) os) fun e w'' => e = .returned (.bool (actsB l)) ∧ ∃ p : Regrown, w'' = grow (redrawn w5 p.d) p.os := fun d os => Calls.regrown_of (actsRight_calls l hl Hok.out _ _ (acts_up (lent_acts Hin.out.lent) (below_regrown w5 d os)))
    have cJ : ∀ d os, Calls Tryz.prog 20 #[.slice ao l.length vcap] (grow (redrawn w5 d) os) fun e w'' => e = .returned (.bool (actsB l)) ∧ ∃ p : Regrown, w'' = grow (redrawn w5 p.d) p.os := fun d os => Calls.regrown_of (refRight_calls l hl Hok.out _ _ (acts_up HA5.out (below_regrown w5 d os)))
    have cN : ∀ d os, Calls Tryz.prog 21 #[nameV c1 n1] (grow (redrawn w5 d) os) fun e w'' => e = .returned (.bool (nameB c1 n1)) ∧ ∃ p : Regrown, w'' = grow (redrawn w5 p.d) p.os := fun d os => Calls.regrown_of (name_calls _ _ _)
    have cM : ∀ d os, Calls Tryz.prog 22 #[nameV c1 n1] (grow (redrawn w5 d) os) fun e w'' => e = .returned (.bool (nameB c1 n1)) ∧ ∃ p : Regrown, w'' = grow (redrawn w5 p.d) p.os := fun d os => Calls.regrown_of (refName_calls _ _ _)
    have cO : ∀ d os, Calls Tryz.prog 23 #[nameV c1 n1, nameV c2 n2] (grow (redrawn w5 d) os) fun e w'' => e = .returned (.bool (olderB c1 n1 c2 n2)) ∧ ∃ p : Regrown, w'' = grow (redrawn w5 p.d) p.os := fun d os => Calls.regrown_of (older_calls _ _ _ _ _)
    have cP : ∀ d os, Calls Tryz.prog 24 #[nameV c1 n1, nameV c2 n2] (grow (redrawn w5 d) os) fun e w'' => e = .returned (.bool (olderB c1 n1 c2 n2)) ∧ ∃ p : Regrown, w'' = grow (redrawn w5 p.d) p.os := fun d os => Calls.regrown_of (refOlder_calls _ _ _ _ _)
    unfold nameV at cN cM cO cP
    generalize actsB l = rb at *
    generalize nameB c1 n1 = nb at *
    generalize olderB c1 n1 c2 n2 = ob at *
    refine wp_region_quiet_below (by kernel_rfl) (by kernel_rfl) ?_
    repeat (quiet_step (first | with_reducible exact cR _ _ | with_reducible exact cI _ _ | with_reducible exact cJ _ _ | with_reducible exact cN _ _ | with_reducible exact cM _ _ | with_reducible exact cO _ _ | with_reducible exact cP _ _))
    refine wpQuiet_nil ?_
    intro _ hw'
    obtain ⟨⟨dq, osq⟩, hw''⟩ := hw'
    subst hw''
    clear cR cI cJ cN cM cO cP k0 k1 k2 k3 Hbx HR4 HR5
    have hbq := below_regrown w5 dq osq
    generalize grow (redrawn w5 dq) osq = w6 at *
    have Hb6 := Lib.hid (up_trans Hb5.out hbq)
    have HE6 := Lib.hid (HE5.out.keeps hbq)
    have HA6 := Lib.hid (acts_up HA5.out hbq)
    replace Hin := Lib.hid (Hin.out.keeps hbq)
    clear Hb5 HE5 HA5 hbq
    go_wp2_with fail
    refine (of_calls kt l (by omega) _ w6 (lent_acts Hin.out.lent)).mono ?_
    rintro e w7 ⟨v7, rfl, hown7, hb7⟩
    have Ho7 := Lib.hid hown7
    have Hc7 := Lib.hid hb7
    clear hown7 hb7
    go_wp2_with fail
    refine (keys_calls l (by omega) _ w7 (acts_up (lent_acts Hin.out.lent) Hc7.out)).mono ?_
    rintro e w8 ⟨v8, rfl, hown8, hb8⟩
    have Ht8 := Lib.hid (texts_of_owns hown8)
    replace Ho7 := Lib.hid (own_keeps Ho7.out hb8)
    have Hc8 := Lib.hid (up_trans Hc7.out hb8)
    clear hown8 hb8 Hc7
    go_wp2_with fail
    refine (refKeys_calls l (by omega) _ w8 (acts_up HA6.out Hc8.out)).mono ?_
    rintro e w9 ⟨v9, rfl, hown9, hb9⟩
    have Ht9 := Lib.hid (texts_of_owns hown9)
    replace Ht8 := Lib.hid (texts_up Ht8.out hb9)
    replace Ho7 := Lib.hid (own_keeps Ho7.out hb9)
    have Hc9 := Lib.hid (up_trans Hc8.out hb9)
    clear hown9 hb9 Hc8
    go_wp2_with fail
    have hkl := keysOf_len (l.map Act.key)
    rw [List.length_map] at hkl
    refine (sameTexts_calls (keysOf (l.map Act.key)) (by omega) _ _ w9 Ht8.out Ht9.out).mono ?_
    rintro e w10 ⟨rfl, hb10⟩
    replace Ho7 := Lib.hid (own_keeps Ho7.out hb10)
    have Hc10 := Lib.hid (up_trans Hc9.out hb10)
    clear hb10 Hc9 Ht8 Ht9 hkl
    go_wp2_with fail
    refine (refOf_calls kt l (by omega) _ w10 (acts_up HA6.out Hc10.out)).mono ?_
    rintro e w11 ⟨v11, rfl, hown11, hb11⟩
    replace Ho7 := Lib.hid (own_keeps Ho7.out hb11)
    have Hc11 := Lib.hid (up_trans Hc10.out hb11)
    have Ha11 := Lib.hid (acts_of_own hown11)
    clear hown11 hb11 Hc10
    go_wp2_with fail
    refine (sameActs_calls (ofKey kt l) _ _ w11 (acts_of_own Ho7.out) Ha11.out).mono ?_
    rintro e w12 ⟨rfl, hb12⟩
    replace Ho7 := Lib.hid (own_keeps Ho7.out hb12)
    have Hc12 := Lib.hid (up_trans Hc11.out hb12)
    clear hb12 Hc11 Ha11
    go_wp2_with fail
    refine (over_calls w6.heap.size _ (ofKey kt l).length (actCells (ofKey kt l)) (Nat.le_trans (ofKey_len _ _) (by omega)) w12 Hc12.out.size Ho7.out).mono ?_
    rintro e w13 ⟨rfl, hb13⟩
    have Hc13 := Lib.hid (Hc12.out.trans hb13)
    clear hb13 Hc12 Ho7
    go_wp2_with fail
    refine (number_calls ⟨vt.toArray⟩ hvs w13 (HE6.out.keeps Hc13.out)).mono ?_
    rintro e w14 ⟨rfl, hb14⟩
    have Hc14 := Lib.hid (up_trans Hc13.out hb14)
    clear hb14 Hc13
    go_wp2_with fail
    refine (refNumber_calls ⟨vt.toArray⟩ hvs w14).mono ?_
    rintro e w15 ⟨rfl, rfl⟩
    go_wp2_with fail
    refine (kept_calls l (by omega) _ g cap _ w14 (own_keeps Hin.out.lent Hc14.out) (acts_up HA6.out Hc14.out)).mono ?_
    rintro e w15 ⟨rfl, hb15⟩
    have Hc15 := Lib.hid (up_trans Hc14.out hb15)
    clear hb15
    go_wp2_with fail
    go_ret
    exact ⟨rfl, up_trans Hb6.out Hc15.out⟩
  · go_wp2_with fail
    go_ret
    exact ⟨rfl, Hb2.out⟩
end Go.Proofs.YtahckodhnkloeaaGreatDoor

/- Walk: the law ActRound: numbers there and back; keys rise, each act is of one of them; of two names just one is older. -/
import Derived.Test.YtneekkdoabpilaaDoorPlainRound
import Derived.Test.YtneekkdoabpilaaDoorKeys
import Derived.Test.YtneekkdoabpilaaDoorOlder
import Derived.Test.YtneekkdoabpilaaDoorParts
import Derived.Lib.QuietBelow
import Derived.Deep.DeepCutAuto
import Derived.Sort.Walk0
import Derived.Laws.StructEq
namespace Go.Proofs.YtneekkdoabpilaaDoor
open Go Go.RowKit Go.Sort

theorem texts_none (B : Nat) (w : World) : TextsAt B w (.slice none 0 0) [] := ⟨none, 0, rfl, Nat.le_refl _, fun i hi => by simp at hi⟩
theorem texts_of_owns {w : World} {base : Nat} {v : Value} {l : List Txt} (h : OwnsTexts base w v l) : TextsAt w.heap.size w v l := by
  rcases h.2 with ⟨rfl, h0⟩ | ⟨g, cap, cur, rfl, _, hg, hcap, _⟩
  · have : l = [] := List.length_eq_zero_iff.1 h0
    subst this
    exact texts_none _ _
  · refine ⟨_, cap, rfl, hcap, fun i hi => ⟨g, 0, rfl, (Array.getElem?_eq_some_iff.1 hg).1, ?_⟩⟩
    have hc := h.cells (g := g) rfl i (S l[i]) (by simp [hi, S])
    rw [add_zero_addr] at hc
    simpa using hc

theorem older_false {c n c' n' : Int} (h : olderB c n c' n' = true) : olderB c' n' c n = false := by
  unfold olderB at *
  rw [Bool.eq_false_iff]
  intro h2
  simp only [Bool.or_eq_true, Bool.and_eq_true, decide_eq_true_eq] at h h2
  omega
theorem older_eq {c n c' n' : Int} (h : olderB c n c' n' = false) (h2 : olderB c' n' c n = false) : c = c' ∧ n = n' := by
  unfold olderB at *
  rw [Bool.eq_false_iff] at *
  simp only [Bool.or_eq_true, Bool.and_eq_true, decide_eq_true_eq, ne_eq] at h h2
  omega
theorem older_ne {c n c' n' : Int} (h : olderB c n c' n' = true) : ¬ (c = c' ∧ n = n') := by
  unfold olderB at h
  simp only [Bool.or_eq_true, Bool.and_eq_true, decide_eq_true_eq] at h
  omega

/-- Two names in their boxes. -/
structure Boxes (B : Nat) (w : World) (c1 n1 c2 n2 : Int) : Prop where
  a0 : w.cell? ⟨B, 0, none⟩ = some (.int .i64 c1)
  a1 : w.cell? ⟨B, 1, none⟩ = some (.int .i64 n1)
  b0 : w.cell? ⟨B + 1, 0, none⟩ = some (.int .i64 c2)
  b1 : w.cell? ⟨B + 1, 1, none⟩ = some (.int .i64 n2)
  lt : B + 1 < w.heap.size
theorem Boxes.keeps {B : Nat} {w w' : World} {c1 n1 c2 n2 : Int} (h : Boxes B w c1 n1 c2 n2) (hb : Below w.heap.size w w') : Boxes B w' c1 n1 c2 n2 := by
  have hl := h.lt
  exact ⟨(hb.cell (p := ⟨B, 0, none⟩) (show B < w.heap.size by omega)).trans h.a0, (hb.cell (p := ⟨B, 1, none⟩) (show B < w.heap.size by omega)).trans h.a1, (hb.cell (p := ⟨B + 1, 0, none⟩) hl).trans h.b0, (hb.cell (p := ⟨B + 1, 1, none⟩) hl).trans h.b1, Nat.lt_of_lt_of_le hl hb.size⟩
theorem boxes_at (w : World) (c1 n1 c2 n2 : Int) : Boxes w.heap.size ((w.alloc (.cells #[.int .i64 c1, .int .i64 n1] 35)).alloc (.cells #[.int .i64 c2, .int .i64 n2] 35)) c1 n1 c2 n2 :=
  ⟨by simp, by simp, by simp, by simp, by simp⟩

set_option maxRecDepth 100000 in
set_option maxHeartbeats 4000000 in
theorem round_calls (n : Int) (l : List Act) (hl : l.length ≤ 140737488351232) (hok : ∀ a ∈ l, a.Ok) (v : Value) (c1 n1 c2 n2 : Int) (w : World) (E : Env w) (h : ActsAt w.heap.size w v l) :
    Calls Tryd.prog 5 #[.int .i64 n, v, nameV c1 n1, nameV c2 n2] w fun e w' => e = .returned (.bool true) ∧ Below w.heap.size w w' := by
  have HE := Lib.hid E; clear E
  have HA := Lib.hid h
  have Hok := Lib.hid hok; clear hok
  obtain ⟨ao, cap, rfl, hlc, hcap, _⟩ := acts_slice h
  clear h
  unfold nameV
  have Hbx := Lib.hid (boxes_at w c1 n1 c2 n2)
  have Hb0 := Lib.hid (up_alloc (up_alloc (Below.refl _ _)) : Below w.heap.size w ((w.alloc (.cells #[.int .i64 c1, .int .i64 n1] 35)).alloc (.cells #[.int .i64 c2, .int .i64 n2] 35)))
  go_enter Tryd.func5, Tryd.ntmps5
  go_wp2_with fail
  generalize ((w.alloc (.cells #[.int .i64 c1, .int .i64 n1] 35)).alloc (.cells #[.int .i64 c2, .int .i64 n2] 35)) = w0 at *
  refine (awake_calls w0 (HE.out.keeps Hb0.out)).mono ?_
  rintro e w1 ⟨rfl, hb1⟩
  replace Hbx := Lib.hid (Hbx.out.keeps hb1)
  have Hb1 := Lib.hid (up_trans Hb0.out hb1); clear hb1 Hb0
  go_wp2_with fail
  refine (great_calls l hl Hok.out [] (by simp) (by simp) _ _ _ ((HA.out.keeps Hb1.out).mono Hb1.out.size) (texts_none _ _)).mono ?_
  rintro e w2 ⟨rfl, hb2⟩
  replace Hbx := Lib.hid (Hbx.out.keeps hb2)
  have Hb2 := Lib.hid (up_trans Hb1.out hb2); clear hb2 Hb1
  cases hg : greatB l []
  · obtain ⟨g1, _, _⟩ := great_no_bounds hg
    clear hg
    have lo := cutN_lo n
    go_upto_region 5 with fail
    go_cut [29] (fun s29 wx => s29 = .bool false ∧ Hid (Boxes w.heap.size wx c1 n1 c2 n2) ∧ Hid (Below w.heap.size w wx))
    case first =>
      by_cases hn : -1073741824 ≤ n ∧ n ≤ 1073741824
      · obtain ⟨hn1, hn2⟩ := hn
        go_wp2_with fail
        refine (value_calls n w2 (HE.out.keeps Hb2.out)).mono ?_
        rintro e w3 ⟨rfl, hb3⟩
        rw [cutN_id hn1 hn2]
        replace Hbx := Lib.hid (Hbx.out.keeps hb3)
        have Hb3 := Lib.hid (up_trans Hb2.out hb3); clear hb3 Hb2
        have hil := itoa_len n hn1 hn2
        have Hback := Lib.hid (numOf_itoa n hn1 hn2)
        generalize Lib.itoa n = t at *
        unfold S
        go_wp2_with fail
        refine (number_calls ⟨t.toArray⟩ (by show t.length ≤ _; omega) w3 (HE.out.keeps Hb3.out)).mono ?_
        rintro e w4 ⟨rfl, hb4⟩
        rw [show numOf (⟨t.toArray⟩ : ByteArray).data.toList = n from Hback.out]
        replace Hbx := Lib.hid (Hbx.out.keeps hb4)
        have Hb4 := Lib.hid (up_trans Hb3.out hb4); clear hb4 Hb3 Hback hil
        go_wp2_with fail
        go_meet
        exact ⟨rfl, Hbx, Hb4⟩
      · by_cases hn1 : -1073741824 ≤ n
        · have hn2 : ¬ n ≤ 1073741824 := fun e => hn ⟨hn1, e⟩
          clear hn
          go_wp2_with fail
          go_meet
          exact ⟨rfl, Hbx, Hb2⟩
        · clear hn
          go_wp2_with fail
          go_meet
          exact ⟨rfl, Hbx, Hb2⟩
    case rest =>
      clear Hbx Hb2
      obtain ⟨rfl, Hbx, Hb4⟩ := hcut
      go_wp2_with fail
      refine (keys_calls l (by omega) _ wc ((HA.out.keeps Hb4.out).mono Hb4.out.size)).mono ?_
      rintro e w5 ⟨v5, rfl, hown5, hb5⟩
      replace Hbx := Lib.hid (Hbx.out.keeps hb5)
      have Hb5 := Lib.hid (up_trans Hb4.out hb5)
      obtain ⟨ks, mt, ek, hkl, hsome, hrise, hnext, hzero, hend, hle⟩ := round_facts l
      rw [ek] at hown5
      obtain ⟨ko, kcap, rfl, hkc, hkt⟩ := texts_of_owns hown5
      have HT := Lib.hid hkt
      clear hb5 hown5 hkt Hb4 ek
      have Hsome := Lib.hid hsome
      have Hrise := Lib.hid hrise
      have Hnext := Lib.hid hnext
      have Hend := Lib.hid hend
      have Hzero := Lib.hid hzero
      have Hle := Lib.hid hle
      clear hsome hrise hnext hend hzero hle
      go_wp2_with fail
      go_loopw [10, 11] (fun m i wr => ∃ k : Nat, k ≤ ks.length ∧ i = .int .i64 k ∧ m = .int .i64 (mt k : Nat) ∧ Hid (Below w5.heap.size w5 wr)) (fun _ i _ => ks.length - (intOf i).toNat)
      case atStart => exact ⟨0, Nat.zero_le _, rfl, by rw [Hzero.out]; rfl, Below.refl _ _⟩
      case round =>
        obtain ⟨k, hk, rfl, rfl, hb⟩ := hrel
        by_cases hlt : k < ks.length
        · obtain ⟨b, off, e, hbl, ct⟩ := HT.out k hlt
          subst e
          have Ct := Lib.hid ct
          replace ct := (hb.out.cell (p := ⟨b, off + k, none⟩) hbl).trans ct
          have hs := Hsome.out k hlt
          have hx := Hnext.out k hlt
          have hle1 := Hle.out k
          have hle2 := Hle.out (k + 1)
          have i1 : (0 : Int) ≤ (k : Int) := by omega
          have i2 : (k : Int) < (ks.length : Int) := by omega
          by_cases hk0 : 0 < k
          · have hl1 : (ofKey ks[k] l).length ≤ 40 := Nat.le_trans (ofKey_len _ _) g1
            obtain ⟨b', off', e', hbl', ct'⟩ := HT.out (k - 1) (by omega)
            simp only [Option.some.injEq, Addr.mk.injEq, and_true] at e'
            obtain ⟨rfl, rfl⟩ := e'
            replace ct' := (hb.out.cell (p := ⟨b, off + (k - 1), none⟩) hbl).trans ct'
            have hri := (bytesLess_eq ks[k - 1] ks[k]).trans (decide_eq_true (Hrise.out k hk0 hlt))
            have Hof := Lib.hid (fun w' h => of_calls ks[k] l (by omega) (.slice ao l.length cap) w' h)
            generalize ks[k] = key at *
            generalize ks[k - 1] = key' at *
            unfold S at *
            go_wp2_with fail
            go_quiet (fail)
            have hb1 := Lib.hid (below_drewN hb.out nq)
            clear hb ct ct'
            generalize wr.drewN nq = wx at *
            have ct := (hb1.out.cell (p := ⟨b, off + k, none⟩) hbl).trans Ct.out
            clear Ct
            go_wp2_with fail
            refine (Hof.out _ ((HA.out.keeps (Hb5.out.trans (hb1.out.mono Hb5.out.size))).mono (Nat.le_trans Hb5.out.size hb1.out.size))).mono ?_
            rintro e w6 ⟨v6, rfl, hown6, hb6⟩
            have hb6' : Below w5.heap.size w5 w6 := up_trans hb1.out hb6
            have Hb6 := Lib.hid hb6'
            obtain ⟨a6, n6, c6, h6⟩ := owns_slice hown6
            have hn6 : n6 = (ofKey key l).length := by
              rcases hown6.2 with ⟨h0, h1⟩ | ⟨g, gcap, cur, h0, _⟩
              · rw [h6] at h0; cases h0; omega
              · rw [h6] at h0; cases h0; rfl
            subst h6
            subst hn6
            clear hown6 hb6 hb6' hb1 Hof
            generalize (ofKey key l).length = mm at *
            go_wp2_with fail
            exact ⟨⟨k + 1, by omega, by go_num, by rw [hx]; go_num, Hb6.out⟩, by simp [intOf]; omega⟩
          · obtain rfl : k = 0 := by omega
            have hl1 : (ofKey ks[0] l).length ≤ 40 := Nat.le_trans (ofKey_len _ _) g1
            have Hof := Lib.hid (fun w' h => of_calls ks[0] l (by omega) (.slice ao l.length cap) w' h)
            generalize ks[0] = key at *
            unfold S at *
            go_wp2_with fail
            go_quiet (fail)
            have hb1 := Lib.hid (below_drewN hb.out nq)
            clear hb ct
            generalize wr.drewN nq = wx at *
            have ct : wx.cell? ⟨b, off, none⟩ = _ := (hb1.out.cell (p := ⟨b, off + 0, none⟩) hbl).trans Ct.out
            clear Ct
            go_wp2_with fail
            refine (Hof.out _ ((HA.out.keeps (Hb5.out.trans (hb1.out.mono Hb5.out.size))).mono (Nat.le_trans Hb5.out.size hb1.out.size))).mono ?_
            rintro e w6 ⟨v6, rfl, hown6, hb6⟩
            have hb6' : Below w5.heap.size w5 w6 := up_trans hb1.out hb6
            have Hb6 := Lib.hid hb6'
            obtain ⟨a6, n6, c6, h6⟩ := owns_slice hown6
            have hn6 : n6 = (ofKey key l).length := by
              rcases hown6.2 with ⟨h0, h1⟩ | ⟨g, gcap, cur, h0, _⟩
              · rw [h6] at h0; cases h0; omega
              · rw [h6] at h0; cases h0; rfl
            subst h6
            subst hn6
            clear hown6 hb6 hb6' hb1 Hof
            generalize (ofKey key l).length = mm at *
            go_wp2_with fail
            exact ⟨⟨0 + 1, by omega, by go_num, by rw [hx]; go_num, Hb6.out⟩, by simp [intOf]; omega⟩
        · obtain rfl : k = ks.length := by omega
          rw [Hend.out]
          have Hbr := Lib.hid (up_trans Hb5.out hb.out)
          replace Hbx := Lib.hid (Hbx.out.keeps hb.out)
          clear hb
          have k0 := cell_regrown Hbx.out.a0
          have k1 := cell_regrown Hbx.out.a1
          have k2 := cell_regrown Hbx.out.b0
          have k3 := cell_regrown Hbx.out.b1
          have cA : ∀ d os, Calls Tryd.prog 17 #[nameV c1 n1, nameV c2 n2] (grow (redrawn wr d) os) fun e w'' => e = .returned (.bool (olderB c1 n1 c2 n2)) ∧ ∃ p : Regrown, w'' = grow (redrawn wr p.d) p.os := fun d os => Calls.regrown_of (older_calls _ _ _ _ _)
          have cB : ∀ d os, Calls Tryd.prog 17 #[nameV c2 n2, nameV c1 n1] (grow (redrawn wr d) os) fun e w'' => e = .returned (.bool (olderB c2 n2 c1 n1)) ∧ ∃ p : Regrown, w'' = grow (redrawn wr p.d) p.os := fun d os => Calls.regrown_of (older_calls _ _ _ _ _)
          have hff := @older_false c1 n1 c2 n2
          have hfe := @older_eq c1 n1 c2 n2
          have hne := @older_ne c1 n1 c2 n2
          have hne' := @older_ne c2 n2 c1 n1
          unfold nameV at cA cB
          cases hA : olderB c1 n1 c2 n2 <;> cases hB : olderB c2 n2 c1 n1 <;> rw [hA] at cA <;> rw [hB] at cB
          · obtain ⟨rfl, rfl⟩ := hfe hA hB
            clear hff hfe hne hne' hA hB
            go_wp2_with fail
            refine wp_region_quiet_below (by kernel_rfl) (by kernel_rfl) ?_
            repeat (quiet_step (first | with_reducible exact cA _ _ | with_reducible exact cB _ _))
            refine wpQuiet_nil ?_
            intro _ hw'
            obtain ⟨⟨dq, osq⟩, hw''⟩ := hw'
            subst hw''
            go_wp2_with fail
            go_ret
            exact ⟨rfl, up_trans Hbr.out (below_regrown wr dq osq)⟩
          · have hd' := hne' hB
            have hd := (fun e => hd' ⟨e.1.symm, e.2.symm⟩ : ¬ (c1 = c2 ∧ n1 = n2))
            clear hd'
            clear hff hfe hne hne' hA hB
            by_cases hc : c1 = c2
            · have hnn : ¬ n1 = n2 := fun e => hd ⟨hc, e⟩
              clear hd
              subst hc
              go_wp2_with fail
              refine wp_region_quiet_below (by kernel_rfl) (by kernel_rfl) ?_
              repeat (quiet_step (first | with_reducible exact cA _ _ | with_reducible exact cB _ _))
              refine wpQuiet_nil ?_
              intro _ hw'
              obtain ⟨⟨dq, osq⟩, hw''⟩ := hw'
              subst hw''
              go_wp2_with fail
              go_ret
              exact ⟨rfl, up_trans Hbr.out (below_regrown wr dq osq)⟩
            · clear hd
              go_wp2_with fail
              refine wp_region_quiet_below (by kernel_rfl) (by kernel_rfl) ?_
              repeat (quiet_step (first | with_reducible exact cA _ _ | with_reducible exact cB _ _))
              refine wpQuiet_nil ?_
              intro _ hw'
              obtain ⟨⟨dq, osq⟩, hw''⟩ := hw'
              subst hw''
              go_wp2_with fail
              go_ret
              exact ⟨rfl, up_trans Hbr.out (below_regrown wr dq osq)⟩
          · have hd := hne hA
            clear hff hfe hne hne' hA hB
            by_cases hc : c1 = c2
            · have hnn : ¬ n1 = n2 := fun e => hd ⟨hc, e⟩
              clear hd
              subst hc
              go_wp2_with fail
              refine wp_region_quiet_below (by kernel_rfl) (by kernel_rfl) ?_
              repeat (quiet_step (first | with_reducible exact cA _ _ | with_reducible exact cB _ _))
              refine wpQuiet_nil ?_
              intro _ hw'
              obtain ⟨⟨dq, osq⟩, hw''⟩ := hw'
              subst hw''
              go_wp2_with fail
              go_ret
              exact ⟨rfl, up_trans Hbr.out (below_regrown wr dq osq)⟩
            · clear hd
              go_wp2_with fail
              refine wp_region_quiet_below (by kernel_rfl) (by kernel_rfl) ?_
              repeat (quiet_step (first | with_reducible exact cA _ _ | with_reducible exact cB _ _))
              refine wpQuiet_nil ?_
              intro _ hw'
              obtain ⟨⟨dq, osq⟩, hw''⟩ := hw'
              subst hw''
              go_wp2_with fail
              go_ret
              exact ⟨rfl, up_trans Hbr.out (below_regrown wr dq osq)⟩
          · have := hff hA
            rw [hB] at this
            cases this
  · go_wp2_with fail
    go_ret
    exact ⟨rfl, Hb2.out⟩
end Go.Proofs.YtneekkdoabpilaaDoor

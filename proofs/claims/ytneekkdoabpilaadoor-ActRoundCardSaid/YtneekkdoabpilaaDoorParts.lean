/- Walk: the law ActParts. -/
import Derived.Test.YtneekkdoabpilaaDoorSlices
import Derived.Test.YtneekkdoabpilaaDoorPlainParts
import Derived.Test.YtneekkdoabpilaaDoorAppend
namespace Go.Proofs.YtneekkdoabpilaaDoor
open Go Go.RowKit

theorem great_no_bounds {l : List Act} {ss : List (List UInt8)} (h : greatB l ss = false) : l.length ≤ 40 ∧ (∀ a ∈ l, a.key.length + a.value.length ≤ 120) ∧ ∀ s ∈ ss, s.length ≤ 60 := by
  unfold greatB at h
  simp only [Bool.or_eq_false_iff, List.any_eq_false, decide_eq_true_eq, decide_eq_false_iff_not] at h
  obtain ⟨⟨h1, h2⟩, h3⟩ := h
  refine ⟨by omega, fun a ha => ?_, fun s hs => by have := h2 s hs; omega⟩
  have := h1 a (by rw [List.take_of_length_le (by omega)]; exact ha)
  omega
theorem text_one (w : World) (s : List UInt8) : TextsAt (w.alloc (.cells #[S s] 9)).heap.size (w.alloc (.cells #[S s] 9)) (.slice (some ⟨w.heap.size, 0, none⟩) 1 1) [s] :=
  ⟨_, 1, rfl, Nat.le_refl _, fun i hi => by
    match i, hi with
    | 0, _ => exact ⟨w.heap.size, 0, rfl, by simp, by simp⟩⟩

theorem ownsRow_keeps {w w' : World} {base : Nat} {e : TypeId} {size : Nat} {v : Value} {n : Nat} {xs : List Value} (h : w.ownsRow base e size v n xs) (hb : Below w.heap.size w w') : w'.ownsRow base e size v n xs := by
  refine ⟨h.1, ?_⟩
  rcases h.2 with h | ⟨g, cap, cur, hv, h1, hg, r⟩
  · exact .inl h
  · exact .inr ⟨g, cap, cur, hv, h1, by rw [hb.block g (Array.getElem?_eq_some_iff.1 hg).1]; exact hg, r⟩
theorem rdCells_one (l : List Rd) : ∀ u ∈ rdCells l, u.oneCell' = true := by
  intro u hu
  unfold rdCells at hu
  rw [List.mem_flatMap] at hu
  obtain ⟨r, _, hr⟩ := hu
  simp only [Rd.cells, List.mem_cons, List.mem_nil_iff, or_false] at hr
  rcases hr with rfl | rfl | rfl <;> rfl

theorem same_ready {w : World} {base base' : Nat} {e : TypeId} {v v' : Value} {rR rA rB : List Rd} (hq : rR = rA ++ rB) (h : w.ownsRow base e 3 v' (rA.length + rB.length) (rdCells rA ++ rdCells rB)) (h0 : w.ownsRow base' e 3 v rR.length (rdCells rR)) :
    ReadsAt w.heap.size w v rR ∧ ReadsAt w.heap.size w v' rR := by
  refine ⟨reads_of_owns h0, reads_of_owns (base := base) (e := e) ?_⟩
  rw [hq, List.length_append, show rdCells (rA ++ rB) = rdCells rA ++ rdCells rB by simp [rdCells]]
  exact h

set_option maxRecDepth 100000 in
set_option maxHeartbeats 2000000 in
theorem parts_calls (l : List Act) (hl : l.length ≤ 140737488351232) (hok : ∀ a ∈ l, a.Ok) (v : Value) (is : Bool) (value : List UInt8) (hvl : value.length ≤ 140737488351232) (at_ : Int) (w : World) (E : Env w) (h : ActsAt w.heap.size w v l) :
    Calls Tryd.prog 4 #[v, .bool is, S value, .int .i64 at_] w fun e w' => e = .returned (.bool true) ∧ Below w.heap.size w w' := by
  have HE := Lib.hid E; clear E
  have HA := Lib.hid h
  have Hok := Lib.hid hok; clear hok
  obtain ⟨ao, cap, rfl, hlc, hcap, _⟩ := acts_slice h
  clear h
  unfold S
  go_enter Tryd.func4, Tryd.ntmps4
  go_wp2_with fail
  refine (awake_calls w HE.out).mono ?_
  rintro e w1 ⟨rfl, hb1⟩
  have Hb1 := Lib.hid hb1; clear hb1
  go_wp2_with fail
  have Hb2 := Lib.hid (Hb1.out.alloc Hb1.out.size (.cells #[S value] 9))
  refine (great_calls l hl Hok.out [value] (by simpa using hvl) (by simp) _ _ _ ((HA.out.keeps Hb2.out).mono Hb2.out.size) (text_one w1 value)).mono ?_
  rintro e w3 ⟨rfl, hb3⟩
  have Hb3 := Lib.hid (up_trans Hb2.out hb3); clear hb3
  cases hg : greatB l [value]
  · obtain ⟨g1, g2, g3⟩ := great_no_bounds hg
    have hv60 : value.length ≤ 60 := g3 value (by simp)
    clear hg g3
    go_wp2_with fail
    have hl2 : l.length ≤ 1000000 := by omega
    refine (pick_calls at_ _ (by omega) (by omega) w3).mono ?_
    rintro e w4 ⟨⟨k, rfl, hk⟩, rfl⟩
    have hk2 : k ≤ l.length := by omega
    go_wp2_with fail
    refine (do_calls is value _ l w3 (HE.out.keeps Hb3.out) hvl hl2 Hok.out ((HA.out.keeps Hb3.out).mono Hb3.out.size)).mono ?_
    rintro e w5 ⟨v0, rfl, hown0, hb5⟩
    have Hown0 := Lib.hid hown0; clear hown0
    have Hb5 := Lib.hid (up_trans Hb3.out hb5)
    have Hz0 := Lib.hid (ownsRow_mono Hown0.out Hb3.out.size)
    clear hb5
    obtain ⟨v1, hs1, hA1⟩ := cut_to ((HA.out.keeps Hb5.out).mono Hb5.out.size) k hk2
    obtain ⟨v2, hs2, hA2⟩ := cut_from ((HA.out.keeps Hb5.out).mono Hb5.out.size) k hk2
    have HA1 := Lib.hid hA1; clear hA1
    have HA2 := Lib.hid hA2; clear hA2
    have Hp := Lib.hid (parts is value l k)
    generalize doAll (begun is value) l = R at *
    obtain ⟨rR, iR, pR, xR⟩ := R
    obtain ⟨yR, hyR⟩ : ∃ y, (if pR then xR else []) = y := ⟨_, rfl⟩
    simp only at Hown0 Hz0 ⊢
    rw [hyR]
    have HyR := Lib.hid hyR; clear hyR
    have Hok1 := Lib.hid (fun a (ha : a ∈ l.take k) => Hok.out a (List.mem_of_mem_take ha))
    have Hok2 := Lib.hid (fun a (ha : a ∈ l.drop k) => Hok.out a (List.mem_of_mem_drop ha))
    have hn1 : (l.take k).length ≤ 1000000 := by rw [List.length_take]; omega
    have hn2 : (l.drop k).length ≤ 1000000 := by rw [List.length_drop]; omega
    unfold S
    go_wp2_with fail
    refine (do_calls is value v1 (l.take k) w5 (HE.out.keeps Hb5.out) hvl hn1 Hok1.out HA1.out).mono ?_
    rintro e w6 ⟨va, rfl, howna, hb6⟩
    have Howna := Lib.hid howna; clear howna
    have Hb6 := Lib.hid (up_trans Hb5.out hb6); have Hb6o := Lib.hid hb6; clear hb6
    have Hza := Lib.hid (ownsRow_mono Howna.out Hb5.out.size)
    have Hbd := Lib.hid (doAll_ok (k := k) hvl hl2 hk2 Hok.out (is := is))
    generalize doAll (begun is value) (l.take k) = A at *
    obtain ⟨rA, iA, pA, xA⟩ := A
    obtain ⟨yA, hyA⟩ : ∃ y, (if pA then xA else []) = y := ⟨_, rfl⟩
    simp only at Howna Hza Hp ⊢
    rw [hyA]
    have HyA := Lib.hid hyA; clear hyA
    cases pA
    · obtain rfl : ([] : List UInt8) = yA := HyA.out
      go_wp2_with fail
      refine (do_calls is value v2 (l.drop k) w6 (HE.out.keeps Hb6.out) hvl hn2 Hok2.out ((HA2.out.keeps Hb6o.out).mono Hb6o.out.size)).mono ?_
      rintro e w7 ⟨vb, rfl, hownb, hb7⟩
      have Hownb := Lib.hid hownb; clear hownb
      have Hb7 := Lib.hid (up_trans Hb6.out hb7); have Hb7o := Lib.hid hb7
      clear hb7
      have hp := Hp.out
      simp only [Bool.false_eq_true, if_false] at hp
      have Hbe := Lib.hid (doAll_ok (k := (l.drop k).length) hvl hn2 (Nat.le_refl _) Hok2.out (is := is))
      rw [List.take_of_length_le (Nat.le_refl _)] at Hbe
      generalize doAll (begun is value) (l.drop k) = Bt at *
      obtain ⟨rB, iB, pB, xB⟩ := Bt
      obtain ⟨yB, hyB⟩ : ∃ y, (if pB then xB else []) = y := ⟨_, rfl⟩
      simp only at Hownb hp ⊢
      rw [hyB]
      have HyB := Lib.hid hyB; clear hyB
      obtain ⟨q1, q2, q3, q4⟩ := hp
      have Q1 := Lib.hid q1; have Q2 := Lib.hid q2; have Q3 := Lib.hid q3; have Q4 := Lib.hid q4
      clear q1 q2 q3 q4 Hp
      obtain ⟨i0, hi, hz0, hz1, hz2⟩ := info_parts infoRead
      have Hzb := Lib.hid (ownsRow_mono Hownb.out Hb6.out.size)
      have Hza7 := Lib.hid (ownsRow_keeps Howna.out Hb7o.out)
      have Hz07 := Lib.hid (ownsRow_keeps (ownsRow_keeps Hown0.out Hb6o.out) Hb7o.out)
      have hbA := Hbd.out.1
      have hbB := Hbe.out.1
      clear Howna Hown0 Hz0 Hza HA1 HA2 HE hs1 hs2 Hok Hok1 Hok2 Hb5 Hb6o HA
      go_wp2_with (first
        | (at_builtin; refine append_row rfl (.tmp 65) (.tmp 66) 29 rfl w7.heap.size 45 i0 (.agg #[.string ⟨#[]⟩, .bool false, .string ⟨#[]⟩]) 3 40 Tryd.underlying29 hi hz0 hz1 hz2 rfl (by decide) _ 0 [] rfl (World.ownsRow_made w7 #[] 0 (Nat.le_refl _) (by decide) rfl) w5.heap.size va rA.length (rdCells rA) rfl (Hza7.out.alloc _) (rdCells_one rA) ?d3 ?d4 ?d5 ?_))
      case d3 => unfold maxLen; omega
      case d4 => omega
      intro v3 w8 hown3 hgrow3
      have hb8 : Below w7.heap.size w7 w8 := ((Below.refl _ w7).alloc (Nat.le_refl _) _).grown hgrow3 (by simp) (fun k hk => by simp [Value.ownBlock] at hk; omega)
      have Hzb8 := Lib.hid (ownsRow_keeps Hownb.out hb8)
      have Hz08 := Lib.hid (ownsRow_keeps Hz07.out hb8)
      have Hown3 := Lib.hid hown3
      have Hb8 := Lib.hid hb8
      clear hown3 hgrow3 hb8
      have hz8 := Hb8.out.size
      obtain ⟨a3, n3, c3, hv3⟩ : ∃ a l c, v3 = .slice a l c := by
        rcases Hown3.out.2 with ⟨h, _⟩ | ⟨_, _, _, h, _⟩
        · exact ⟨_, _, _, h⟩
        · exact ⟨_, _, _, h⟩
      subst hv3
      go_wp2_with (first
        | (at_builtin; refine append_row rfl (.tmp 67) (.tmp 68) 29 rfl w7.heap.size 45 i0 (.agg #[.string ⟨#[]⟩, .bool false, .string ⟨#[]⟩]) 3 40 Tryd.underlying29 hi hz0 hz1 hz2 rfl (by decide) _ rA.length (rdCells rA) rfl Hown3.out w6.heap.size vb rB.length (rdCells rB) rfl Hzb8.out (rdCells_one rB) ?d6 ?d7 ?d8 ?_))
      case d6 => unfold maxLen; omega
      case d7 => omega
      case d8 => exact hz8
      intro v4 w9 hown4 hgrow4
      have hb9 : Below w7.heap.size w7 w9 := Hb8.out.grown hgrow4 hz8 (fun k hk => (Hown3.out.lt k hk).1)
      have Hr := Lib.hid (same_ready Q1.out hown4 (ownsRow_keeps Hz07.out hb9))
      have Hb9 := Lib.hid (up_trans Hb7.out hb9)
      clear hown4 hgrow4 hb9
      obtain ⟨a4, n4, c4, hv4⟩ : ∃ a l c, v4 = .slice a l c := by
        obtain ⟨_, _, h, _⟩ := Hr.out.2
        exact ⟨_, _, _, h⟩
      subst hv4
      go_wp2_with fail
      refine (sameReads_calls rR (by rw [Q1.out, List.length_append]; omega) v0 _ w9 Hr.out.1 Hr.out.2).mono ?_
      rintro e w10 ⟨rfl, hb10⟩
      have Hb10 := Lib.hid (up_trans Hb9.out hb10); clear hb10
      have hpR : pR = pB := Q2.out
      subst hpR
      unfold S
      cases pR
      · obtain rfl : ([] : List UInt8) = yR := HyR.out
        go_wp2_with fail
        go_ret
        exact ⟨rfl, Hb10.out⟩
      · obtain rfl : xR = yR := HyR.out
        obtain rfl : xB = yB := HyB.out
        obtain rfl : xR = xB := Q3.out rfl
        go_wp2_with fail
        go_ret
        exact ⟨rfl, Hb10.out⟩
    · obtain rfl : xA = yA := HyA.out
      go_wp2_with fail
      refine (do_calls true xA v2 (l.drop k) w6 (HE.out.keeps Hb6.out) Hbd.out.2 hn2 Hok2.out ((HA2.out.keeps Hb6o.out).mono Hb6o.out.size)).mono ?_
      rintro e w7 ⟨vb, rfl, hownb, hb7⟩
      have Hownb := Lib.hid hownb; clear hownb
      have Hb7 := Lib.hid (up_trans Hb6.out hb7); have Hb7o := Lib.hid hb7
      clear hb7
      have hp := Hp.out
      simp only [if_true] at hp
      have Hbe := Lib.hid (doAll_ok (k := (l.drop k).length) Hbd.out.2 hn2 (Nat.le_refl _) Hok2.out (is := true))
      rw [List.take_of_length_le (Nat.le_refl _)] at Hbe
      generalize doAll (begun true xA) (l.drop k) = Bt at *
      obtain ⟨rB, iB, pB, xB⟩ := Bt
      obtain ⟨yB, hyB⟩ : ∃ y, (if pB then xB else []) = y := ⟨_, rfl⟩
      simp only at Hownb hp ⊢
      rw [hyB]
      have HyB := Lib.hid hyB; clear hyB
      obtain ⟨q1, q2, q3, q4⟩ := hp
      have Q1 := Lib.hid q1; have Q2 := Lib.hid q2; have Q3 := Lib.hid q3; have Q4 := Lib.hid q4
      clear q1 q2 q3 q4 Hp
      obtain ⟨i0, hi, hz0, hz1, hz2⟩ := info_parts infoRead
      have Hzb := Lib.hid (ownsRow_mono Hownb.out Hb6.out.size)
      have Hza7 := Lib.hid (ownsRow_keeps Howna.out Hb7o.out)
      have Hz07 := Lib.hid (ownsRow_keeps (ownsRow_keeps Hown0.out Hb6o.out) Hb7o.out)
      have hbA := Hbd.out.1
      have hbB := Hbe.out.1
      clear Howna Hown0 Hz0 Hza HA1 HA2 HE hs1 hs2 Hok Hok1 Hok2 Hb5 Hb6o HA
      go_wp2_with (first
        | (at_builtin; refine append_row rfl (.tmp 65) (.tmp 66) 29 rfl w7.heap.size 45 i0 (.agg #[.string ⟨#[]⟩, .bool false, .string ⟨#[]⟩]) 3 40 Tryd.underlying29 hi hz0 hz1 hz2 rfl (by decide) _ 0 [] rfl (World.ownsRow_made w7 #[] 0 (Nat.le_refl _) (by decide) rfl) w5.heap.size va rA.length (rdCells rA) rfl (Hza7.out.alloc _) (rdCells_one rA) ?c3 ?c4 ?c5 ?_))
      case c3 => unfold maxLen; omega
      case c4 => omega
      intro v3 w8 hown3 hgrow3
      have hb8 : Below w7.heap.size w7 w8 := ((Below.refl _ w7).alloc (Nat.le_refl _) _).grown hgrow3 (by simp) (fun k hk => by simp [Value.ownBlock] at hk; omega)
      have Hzb8 := Lib.hid (ownsRow_keeps Hownb.out hb8)
      have Hz08 := Lib.hid (ownsRow_keeps Hz07.out hb8)
      have Hown3 := Lib.hid hown3
      have Hb8 := Lib.hid hb8
      clear hown3 hgrow3 hb8
      have hz8 := Hb8.out.size
      obtain ⟨a3, n3, c3, hv3⟩ : ∃ a l c, v3 = .slice a l c := by
        rcases Hown3.out.2 with ⟨h, _⟩ | ⟨_, _, _, h, _⟩
        · exact ⟨_, _, _, h⟩
        · exact ⟨_, _, _, h⟩
      subst hv3
      go_wp2_with (first
        | (at_builtin; refine append_row rfl (.tmp 67) (.tmp 68) 29 rfl w7.heap.size 45 i0 (.agg #[.string ⟨#[]⟩, .bool false, .string ⟨#[]⟩]) 3 40 Tryd.underlying29 hi hz0 hz1 hz2 rfl (by decide) _ rA.length (rdCells rA) rfl Hown3.out w6.heap.size vb rB.length (rdCells rB) rfl Hzb8.out (rdCells_one rB) ?c6 ?c7 ?c8 ?_))
      case c6 => unfold maxLen; omega
      case c7 => omega
      case c8 => exact hz8
      intro v4 w9 hown4 hgrow4
      have hb9 : Below w7.heap.size w7 w9 := Hb8.out.grown hgrow4 hz8 (fun k hk => (Hown3.out.lt k hk).1)
      have Hr := Lib.hid (same_ready Q1.out hown4 (ownsRow_keeps Hz07.out hb9))
      have Hb9 := Lib.hid (up_trans Hb7.out hb9)
      clear hown4 hgrow4 hb9
      obtain ⟨a4, n4, c4, hv4⟩ : ∃ a l c, v4 = .slice a l c := by
        obtain ⟨_, _, h, _⟩ := Hr.out.2
        exact ⟨_, _, _, h⟩
      subst hv4
      go_wp2_with fail
      refine (sameReads_calls rR (by rw [Q1.out, List.length_append]; omega) v0 _ w9 Hr.out.1 Hr.out.2).mono ?_
      rintro e w10 ⟨rfl, hb10⟩
      have Hb10 := Lib.hid (up_trans Hb9.out hb10); clear hb10
      have hpR : pR = true := Q2.out
      subst hpR
      obtain rfl : xR = yR := HyR.out
      unfold S
      cases pB
      · obtain rfl : xR = xA := Q4.out rfl trivial
        go_wp2_with fail
        go_ret
        exact ⟨rfl, Hb10.out⟩
      · obtain rfl : xB = yB := HyB.out
        obtain rfl : xR = xB := Q3.out rfl
        go_wp2_with fail
        go_ret
        exact ⟨rfl, Hb10.out⟩
  · clear hg
    go_wp2_with fail
    go_ret
    exact ⟨rfl, Hb3.out⟩
end Go.Proofs.YtneekkdoabpilaaDoor

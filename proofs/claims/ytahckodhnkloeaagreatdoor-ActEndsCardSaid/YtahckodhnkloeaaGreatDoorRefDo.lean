/- Walk: the reference's Do: what acts of one key tell and leave. -/
import Derived.Test.YtahckodhnkloeaaGreatDoorDo
import Derived.Lib.QuietBelow
namespace Go.Proofs.YtahckodhnkloeaaGreatDoor
open Go Go.RowKit Go.Sort

theorem owns_slice' {base : Nat} {w : World} {v : Value} {e : TypeId} {s n : Nat} {xs : List Value} (h : w.ownsRow base e s v n xs) : ∃ a n' c, v = .slice a n' c := by
  rcases h.2 with ⟨h, _⟩ | ⟨_, _, _, h, _⟩
  · exact ⟨_, _, _, h⟩
  · exact ⟨_, _, _, h⟩
theorem ownsRow_keeps' {w w' : World} {base : Nat} {e : TypeId} {size : Nat} {v : Value} {n : Nat} {xs : List Value} (h : w.ownsRow base e size v n xs) (hb : Below w.heap.size w w') : w'.ownsRow base e size v n xs := by
  refine ⟨h.1, ?_⟩
  rcases h.2 with h | ⟨g, cap, cur, hv, h1, hg, r⟩
  · exact .inl h
  · exact .inr ⟨g, cap, cur, hv, h1, by rw [hb.block g (Array.getElem?_eq_some_iff.1 hg).1]; exact hg, r⟩
theorem ref_snoc {base : Nat} {w' : World} {v' : Value} {rs : List Rd} {r : Rd} (h : w'.ownsRow base 95 3 v' (rs.length + 1) (rdCells rs ++ [.string ⟨r.key.toArray⟩, .bool r.is, .string ⟨r.value.toArray⟩])) :
    w'.ownsRow base 95 3 v' (rs ++ [r]).length (rdCells (rs ++ [r])) := by
  rw [rdCells_snoc, List.length_append]; exact h
theorem ref_bounds {is : Bool} {value : List UInt8} {l : List Act} (hvl : value.length ≤ 140737488351232) (hok : ∀ a ∈ l, a.Ok) (k : Nat) :
    (doAll (begun is value) (l.take k)).reads.length ≤ l.length ∧ (doAll (begun is value) (l.take k)).value.length ≤ 140737488351232 := by
  have h := doAll_bounds 140737488351232 (by decide) (l.take k) (begun is value) (by unfold begun; cases is <;> simp; exact hvl) (fun a ha => (hok a (List.mem_of_mem_take ha)).value)
  refine ⟨Nat.le_trans h.1 ?_, h.2⟩
  have : (begun is value).reads.length = 0 := rfl
  rw [this, List.length_take]; omega
/-- What was there ahead of the call stays, where a row of the call's own grew. -/
theorem ref_old {base : Nat} {w w1 : World} {o : Obj} {v : Value} {e : TypeId} {s n : Nat} {xs : List Value} (hg : (w.alloc o).grownBy w1 v.ownBlock) (hown : w.ownsRow base e s v n xs) (hbase : base ≤ w.heap.size) : Below base w w1 :=
  ((Below.refl base w).alloc hbase o).grown hg (by simp; omega) (fun k hk => (hown.lt k hk).1)

set_option maxRecDepth 100000 in
set_option maxHeartbeats 4000000 in
theorem refDo_true (value : List UInt8) (v : Value) (l : List Act) (w : World) (hvl : value.length ≤ 140737488351232) (hl : l.length ≤ 1000000) (hok : ∀ a ∈ l, a.Ok) (h : ActsAt w.heap.size w v l) :
    Calls Tryz.prog 17 #[.bool true, S value, v] w (Done w (doAll (begun true value) l)) := by
  obtain ⟨i0, hi, hz0, hz1, hz2⟩ := info_parts infoRead
  obtain ⟨ao, cap, rfl, hlc, hcap, hc⟩ := acts_slice h
  have Hc := Lib.hid hc; clear hc h
  have Hbd := Lib.hid (fun k => ref_bounds (is := true) hvl hok k)
  clear hok
  unfold S
  go_enter Tryz.func17, Tryz.ntmps17
  go_wp2_with fail
  go_loopw [0, 1, 9, 10, 11] (fun s0 s1 s9 s10 i wr => ∃ (k : Nat) (st : St), k ≤ l.length ∧ i = .int .i64 k ∧ Hid (st = doAll (begun true value) (l.take k)) ∧ s0 = .bool st.is ∧ s1 = .string ⟨st.value.toArray⟩ ∧ s10 = .bool st.put ∧ (∃ a n c, s9 = .slice a n c) ∧ Hid (wr.ownsRow w.heap.size 95 3 s9 st.reads.length (rdCells st.reads)) ∧ Hid (Below w.heap.size w wr)) (fun _ _ _ _ i _ => l.length - (intOf i).toNat)
  case atStart => exact ⟨0, begun true value, Nat.zero_le _, rfl, rfl, rfl, rfl, rfl, ⟨_, _, _, rfl⟩, ⟨rfl, .inl ⟨rfl, rfl⟩⟩, Below.refl _ _⟩
  case round =>
    obtain ⟨k, st, hk, rfl, hst, rfl, rfl, rfl, ⟨sa, sn, sc, rfl⟩, Hown, Hb⟩ := hrel
    by_cases hlt : k < l.length
    · obtain ⟨b, off, e, hbl, hact⟩ := Hc.out k hlt
      subst e
      have hact := hact.keeps Hb.out hbl
      have c0 := hact.c0
      have c1 := hact.c1
      have c2 := hact.c2
      have c3 := hact.c3
      clear hact
      have hbd := Hbd.out k
      rw [← hst.out] at hbd
      obtain ⟨hr1, hr2⟩ := hbd
      have hnext := doAll_take (begun true value) l k hlt
      rw [← hst.out] at hnext
      have Hnext := Lib.hid hnext
      clear hnext hst
      generalize l[k] = a at *
      obtain ⟨kd, key, aval, num⟩ := a
      obtain ⟨srs, sis, sput, sval⟩ := st
      unfold S at c1 c2
      simp only at c0 c1 c2 c3 hr1 hr2 Hown
      have i1 : (0 : Int) ≤ (k : Int) := by omega
      have i2 : (k : Int) < (l.length : Int) := by omega
      have hsz := Hb.out.size
      have Hsnoc := Lib.hid (fun w' v' h => @ref_snoc w.heap.size w' v' srs ⟨key, sis, sval⟩ h)
      have hrn : srs.length ≤ 1000000 := by omega
      generalize hxs : rdCells srs = xs at *
      generalize hrr : srs.length = rn at *
      by_cases k1 : kd = 1
      · subst k1
        go_wp2_with (first
          | (at_builtin; refine wpList_append_own _ rfl _ _ 28 rfl w.heap.size 95 i0 (.agg #[.string ⟨#[]⟩, .bool false, .string ⟨#[]⟩]) 3 40 Tryz.underlying28 hi hz0 hz1 hz2 rfl (by decide) _ rn xs rfl (Hown.out.alloc _) ⟨wr.heap.size, 0, none⟩ 1 1 [.string ⟨key.toArray⟩, .bool sis, .string ⟨sval.toArray⟩] rfl rfl ?c1 ?c2 ?c3 ?c4 ?c5 ?_))
        try case c1 =>
          intro j u hj
          match j, hj with
          | 0, hj => simp at hj; subst hj; simp [Addr.add]
          | 1, hj => simp at hj; subst hj; simp [Addr.add]
          | 2, hj => simp at hj; subst hj; simp [Addr.add]
        try case c2 => exact ⟨rfl, rfl, rfl⟩
        try case c3 => unfold maxLen; omega
        try case c4 => omega
        try case c5 => first | omega | (simp; omega)
        intro v' w1 hown1 hgrow _
        have hb1 : Below w.heap.size w w1 := ((Hb.out.alloc hsz _).grown hgrow (by simp; omega) (fun k hk => (Hown.out.lt k hk).1))
        have Hown1 := Lib.hid (Hsnoc.out w1 v' hown1)
        have Hb1 := Lib.hid hb1
        obtain ⟨a1, n1, c1', rfl⟩ := owns_slice' hown1
        clear hown1 hgrow hb1 Hown Hb
        go_wp2_with fail
        exact ⟨⟨k + 1, ⟨srs ++ [Rd.mk key sis sval], sis, sput, sval⟩, by omega, by go_num, by unfold Hid; rw [Hnext.out]; simp [doOne], rfl, rfl, rfl, ⟨_, _, _, rfl⟩, Hown1.out, Hb1.out⟩, by simp [intOf]; omega⟩
      · have e1 : (kd == 1) = false := by simpa using k1
        by_cases k2 : kd = 2
        · subst k2
          clear e1 k1
          go_wp2_with fail
          exact ⟨⟨k + 1, ⟨srs, true, true, aval⟩, by omega, by go_num, by unfold Hid; rw [Hnext.out]; simp [doOne], rfl, rfl, rfl, ⟨_, _, _, rfl⟩, by rw [hxs, hrr]; exact Hown.out, Hb.out⟩, by simp [intOf]; omega⟩
        · have e2 : (kd == 2) = false := by simpa using k2
          by_cases k3 : kd = 3
          · subst k3
            clear e1 e2 k1 k2
            go_wp2_with (first
              | (at_builtin; refine wpList_append_own _ rfl _ _ 28 rfl w.heap.size 95 i0 (.agg #[.string ⟨#[]⟩, .bool false, .string ⟨#[]⟩]) 3 40 Tryz.underlying28 hi hz0 hz1 hz2 rfl (by decide) _ rn xs rfl (Hown.out.alloc _) ⟨wr.heap.size, 0, none⟩ 1 1 [.string ⟨key.toArray⟩, .bool sis, .string ⟨sval.toArray⟩] rfl rfl ?d1 ?d2 ?d3 ?d4 ?d5 ?_))
            try case d1 =>
              intro j u hj
              match j, hj with
              | 0, hj => simp at hj; subst hj; simp [Addr.add]
              | 1, hj => simp at hj; subst hj; simp [Addr.add]
              | 2, hj => simp at hj; subst hj; simp [Addr.add]
            try case d2 => exact ⟨rfl, rfl, rfl⟩
            try case d3 => unfold maxLen; omega
            try case d4 => omega
            try case d5 => first | omega | (simp; omega)
            intro v' w1 hown1 hgrow _
            have hb1 : Below w.heap.size w w1 := ((Hb.out.alloc hsz _).grown hgrow (by simp; omega) (fun k hk => (Hown.out.lt k hk).1))
            have Hown1 := Lib.hid (Hsnoc.out w1 v' hown1)
            have Hb1 := Lib.hid hb1
            have Hb1o := Lib.hid (ref_old hgrow Hown.out hsz)
            obtain ⟨a1, n1, c1', rfl⟩ := owns_slice' hown1
            clear hown1 hgrow hb1 Hown Hb
            have c3' := (Hb1o.out.cell (p := ⟨b, off + k * 4 + 3, none⟩) hbl).trans c3
            have lo := numOf_lo sval
            have hi' := numOf_hi sval
            clear c0 c1 c2 c3
            go_wp2_with fail
            have kk := cell_regrown c3'
            have cN : ∀ d os, Calls Tryz.prog 33 #[.string ⟨sval.toArray⟩] (grow (redrawn w1 d) os) fun e w'' => e = .returned (.int .i64 (numOf sval)) ∧ ∃ p : Regrown, w'' = grow (redrawn w1 p.d) p.os := fun d os => Calls.regrown_of ((refNumber_calls ⟨sval.toArray⟩ hr2 _).mono fun e w' ⟨h, hw⟩ => ⟨h, hw ▸ Below.refl _ _⟩)
            have cV : ∀ x d os, Calls Tryz.prog 72 #[.int .i64 x] (grow (redrawn w1 d) os) fun e w'' => e = .returned (.string ⟨(Lib.itoa (cutN x)).toArray⟩) ∧ ∃ p : Regrown, w'' = grow (redrawn w1 p.d) p.os := fun x d os => Calls.regrown_of (refValue_calls x _)
            refine wp_region_quiet_below (by kernel_rfl) (by kernel_rfl) ?_
            repeat (quiet_step (first | with_reducible exact cN _ _ | with_reducible exact cV _ _ _))
            refine wpQuiet_nil ?_
            intro _ hw'
            obtain ⟨⟨dq, osq⟩, hw''⟩ := hw'
            subst hw''
            have Hown2 := Lib.hid (ownsRow_keeps' Hown1.out (below_regrown w1 dq osq))
            have Hb2 := Lib.hid (Hb1.out.trans ((below_regrown w1 dq osq).mono Hb1.out.size))
            clear Hown1 Hb1 kk cN cV
            go_wp2_with fail
            exact ⟨⟨k + 1, ⟨srs ++ [Rd.mk key sis sval], true, true, addV sval num⟩, by omega, by go_num, by unfold Hid; rw [Hnext.out]; simp [doOne], rfl, by rw [addV_wrap], rfl, ⟨_, _, _, rfl⟩, Hown2.out, Hb2.out⟩, by simp [intOf]; omega⟩
          · have e3 : (kd == 3) = false := by simpa using k3
            go_wp2_with fail
            exact ⟨⟨k + 1, ⟨srs, sis, sput, sval⟩, by omega, by go_num, by unfold Hid; rw [Hnext.out]; simp [doOne, k1, k2, k3], rfl, rfl, rfl, ⟨_, _, _, rfl⟩, by rw [hxs, hrr]; exact Hown.out, Hb.out⟩, by simp [intOf]; omega⟩
    · obtain rfl : k = l.length := by omega
      have hst := hst.out
      rw [List.take_of_length_le (Nat.le_refl _)] at hst
      have Hst := Lib.hid hst.symm
      clear hst Hbd Hc
      obtain ⟨srs, sis, sput, sval⟩ := st
      simp only at Hown
      cases sput
      · go_wp2_with fail
        go_ret3
        show Done _ _ _ _
        rw [Hst.out]
        exact ⟨_, rfl, Hown.out, Hb.out⟩
      · go_wp2_with fail
        go_ret3
        show Done _ _ _ _
        rw [Hst.out]
        exact ⟨_, rfl, Hown.out, Hb.out⟩

set_option maxRecDepth 100000 in
set_option maxHeartbeats 4000000 in
theorem refDo_false (value : List UInt8) (v : Value) (l : List Act) (w : World) (hvl : value.length ≤ 140737488351232) (hl : l.length ≤ 1000000) (hok : ∀ a ∈ l, a.Ok) (h : ActsAt w.heap.size w v l) :
    Calls Tryz.prog 17 #[.bool false, S value, v] w (Done w (doAll (begun false value) l)) := by
  obtain ⟨i0, hi, hz0, hz1, hz2⟩ := info_parts infoRead
  obtain ⟨ao, cap, rfl, hlc, hcap, hc⟩ := acts_slice h
  have Hc := Lib.hid hc; clear hc h
  have Hbd := Lib.hid (fun k => ref_bounds (is := false) hvl hok k)
  clear hok
  unfold S
  go_enter Tryz.func17, Tryz.ntmps17
  go_wp2_with fail
  go_loopw [0, 1, 9, 10, 11] (fun s0 s1 s9 s10 i wr => ∃ (k : Nat) (st : St), k ≤ l.length ∧ i = .int .i64 k ∧ Hid (st = doAll (begun false value) (l.take k)) ∧ s0 = .bool st.is ∧ s1 = .string ⟨st.value.toArray⟩ ∧ s10 = .bool st.put ∧ (∃ a n c, s9 = .slice a n c) ∧ Hid (wr.ownsRow w.heap.size 95 3 s9 st.reads.length (rdCells st.reads)) ∧ Hid (Below w.heap.size w wr)) (fun _ _ _ _ i _ => l.length - (intOf i).toNat)
  case atStart => exact ⟨0, begun false value, Nat.zero_le _, rfl, rfl, rfl, rfl, rfl, ⟨_, _, _, rfl⟩, ⟨rfl, .inl ⟨rfl, rfl⟩⟩, Below.refl _ _⟩
  case round =>
    obtain ⟨k, st, hk, rfl, hst, rfl, rfl, rfl, ⟨sa, sn, sc, rfl⟩, Hown, Hb⟩ := hrel
    by_cases hlt : k < l.length
    · obtain ⟨b, off, e, hbl, hact⟩ := Hc.out k hlt
      subst e
      have hact := hact.keeps Hb.out hbl
      have c0 := hact.c0
      have c1 := hact.c1
      have c2 := hact.c2
      have c3 := hact.c3
      clear hact
      have hbd := Hbd.out k
      rw [← hst.out] at hbd
      obtain ⟨hr1, hr2⟩ := hbd
      have hnext := doAll_take (begun false value) l k hlt
      rw [← hst.out] at hnext
      have Hnext := Lib.hid hnext
      clear hnext hst
      generalize l[k] = a at *
      obtain ⟨kd, key, aval, num⟩ := a
      obtain ⟨srs, sis, sput, sval⟩ := st
      unfold S at c1 c2
      simp only at c0 c1 c2 c3 hr1 hr2 Hown
      have i1 : (0 : Int) ≤ (k : Int) := by omega
      have i2 : (k : Int) < (l.length : Int) := by omega
      have hsz := Hb.out.size
      have Hsnoc := Lib.hid (fun w' v' h => @ref_snoc w.heap.size w' v' srs ⟨key, sis, sval⟩ h)
      have hrn : srs.length ≤ 1000000 := by omega
      generalize hxs : rdCells srs = xs at *
      generalize hrr : srs.length = rn at *
      by_cases k1 : kd = 1
      · subst k1
        go_wp2_with (first
          | (at_builtin; refine wpList_append_own _ rfl _ _ 28 rfl w.heap.size 95 i0 (.agg #[.string ⟨#[]⟩, .bool false, .string ⟨#[]⟩]) 3 40 Tryz.underlying28 hi hz0 hz1 hz2 rfl (by decide) _ rn xs rfl (Hown.out.alloc _) ⟨wr.heap.size, 0, none⟩ 1 1 [.string ⟨key.toArray⟩, .bool sis, .string ⟨sval.toArray⟩] rfl rfl ?c1 ?c2 ?c3 ?c4 ?c5 ?_))
        try case c1 =>
          intro j u hj
          match j, hj with
          | 0, hj => simp at hj; subst hj; simp [Addr.add]
          | 1, hj => simp at hj; subst hj; simp [Addr.add]
          | 2, hj => simp at hj; subst hj; simp [Addr.add]
        try case c2 => exact ⟨rfl, rfl, rfl⟩
        try case c3 => unfold maxLen; omega
        try case c4 => omega
        try case c5 => first | omega | (simp; omega)
        intro v' w1 hown1 hgrow _
        have hb1 : Below w.heap.size w w1 := ((Hb.out.alloc hsz _).grown hgrow (by simp; omega) (fun k hk => (Hown.out.lt k hk).1))
        have Hown1 := Lib.hid (Hsnoc.out w1 v' hown1)
        have Hb1 := Lib.hid hb1
        obtain ⟨a1, n1, c1', rfl⟩ := owns_slice' hown1
        clear hown1 hgrow hb1 Hown Hb
        go_wp2_with fail
        exact ⟨⟨k + 1, ⟨srs ++ [Rd.mk key sis sval], sis, sput, sval⟩, by omega, by go_num, by unfold Hid; rw [Hnext.out]; simp [doOne], rfl, rfl, rfl, ⟨_, _, _, rfl⟩, Hown1.out, Hb1.out⟩, by simp [intOf]; omega⟩
      · have e1 : (kd == 1) = false := by simpa using k1
        by_cases k2 : kd = 2
        · subst k2
          clear e1 k1
          go_wp2_with fail
          exact ⟨⟨k + 1, ⟨srs, true, true, aval⟩, by omega, by go_num, by unfold Hid; rw [Hnext.out]; simp [doOne], rfl, rfl, rfl, ⟨_, _, _, rfl⟩, by rw [hxs, hrr]; exact Hown.out, Hb.out⟩, by simp [intOf]; omega⟩
        · have e2 : (kd == 2) = false := by simpa using k2
          by_cases k3 : kd = 3
          · subst k3
            clear e1 e2 k1 k2
            go_wp2_with (first
              | (at_builtin; refine wpList_append_own _ rfl _ _ 28 rfl w.heap.size 95 i0 (.agg #[.string ⟨#[]⟩, .bool false, .string ⟨#[]⟩]) 3 40 Tryz.underlying28 hi hz0 hz1 hz2 rfl (by decide) _ rn xs rfl (Hown.out.alloc _) ⟨wr.heap.size, 0, none⟩ 1 1 [.string ⟨key.toArray⟩, .bool sis, .string ⟨sval.toArray⟩] rfl rfl ?d1 ?d2 ?d3 ?d4 ?d5 ?_))
            try case d1 =>
              intro j u hj
              match j, hj with
              | 0, hj => simp at hj; subst hj; simp [Addr.add]
              | 1, hj => simp at hj; subst hj; simp [Addr.add]
              | 2, hj => simp at hj; subst hj; simp [Addr.add]
            try case d2 => exact ⟨rfl, rfl, rfl⟩
            try case d3 => unfold maxLen; omega
            try case d4 => omega
            try case d5 => first | omega | (simp; omega)
            intro v' w1 hown1 hgrow _
            have hb1 : Below w.heap.size w w1 := ((Hb.out.alloc hsz _).grown hgrow (by simp; omega) (fun k hk => (Hown.out.lt k hk).1))
            have Hown1 := Lib.hid (Hsnoc.out w1 v' hown1)
            have Hb1 := Lib.hid hb1
            have Hb1o := Lib.hid (ref_old hgrow Hown.out hsz)
            obtain ⟨a1, n1, c1', rfl⟩ := owns_slice' hown1
            clear hown1 hgrow hb1 Hown Hb
            have c3' := (Hb1o.out.cell (p := ⟨b, off + k * 4 + 3, none⟩) hbl).trans c3
            have lo := numOf_lo sval
            have hi' := numOf_hi sval
            clear c0 c1 c2 c3
            go_wp2_with fail
            have kk := cell_regrown c3'
            have cN : ∀ d os, Calls Tryz.prog 33 #[.string ⟨sval.toArray⟩] (grow (redrawn w1 d) os) fun e w'' => e = .returned (.int .i64 (numOf sval)) ∧ ∃ p : Regrown, w'' = grow (redrawn w1 p.d) p.os := fun d os => Calls.regrown_of ((refNumber_calls ⟨sval.toArray⟩ hr2 _).mono fun e w' ⟨h, hw⟩ => ⟨h, hw ▸ Below.refl _ _⟩)
            have cV : ∀ x d os, Calls Tryz.prog 72 #[.int .i64 x] (grow (redrawn w1 d) os) fun e w'' => e = .returned (.string ⟨(Lib.itoa (cutN x)).toArray⟩) ∧ ∃ p : Regrown, w'' = grow (redrawn w1 p.d) p.os := fun x d os => Calls.regrown_of (refValue_calls x _)
            refine wp_region_quiet_below (by kernel_rfl) (by kernel_rfl) ?_
            repeat (quiet_step (first | with_reducible exact cN _ _ | with_reducible exact cV _ _ _))
            refine wpQuiet_nil ?_
            intro _ hw'
            obtain ⟨⟨dq, osq⟩, hw''⟩ := hw'
            subst hw''
            have Hown2 := Lib.hid (ownsRow_keeps' Hown1.out (below_regrown w1 dq osq))
            have Hb2 := Lib.hid (Hb1.out.trans ((below_regrown w1 dq osq).mono Hb1.out.size))
            clear Hown1 Hb1 kk cN cV
            go_wp2_with fail
            exact ⟨⟨k + 1, ⟨srs ++ [Rd.mk key sis sval], true, true, addV sval num⟩, by omega, by go_num, by unfold Hid; rw [Hnext.out]; simp [doOne], rfl, by rw [addV_wrap], rfl, ⟨_, _, _, rfl⟩, Hown2.out, Hb2.out⟩, by simp [intOf]; omega⟩
          · have e3 : (kd == 3) = false := by simpa using k3
            go_wp2_with fail
            exact ⟨⟨k + 1, ⟨srs, sis, sput, sval⟩, by omega, by go_num, by unfold Hid; rw [Hnext.out]; simp [doOne, k1, k2, k3], rfl, rfl, rfl, ⟨_, _, _, rfl⟩, by rw [hxs, hrr]; exact Hown.out, Hb.out⟩, by simp [intOf]; omega⟩
    · obtain rfl : k = l.length := by omega
      have hst := hst.out
      rw [List.take_of_length_le (Nat.le_refl _)] at hst
      have Hst := Lib.hid hst.symm
      clear hst Hbd Hc
      obtain ⟨srs, sis, sput, sval⟩ := st
      simp only at Hown
      cases sput
      · go_wp2_with fail
        go_ret3
        show Done _ _ _ _
        rw [Hst.out]
        exact ⟨_, rfl, Hown.out, Hb.out⟩
      · go_wp2_with fail
        go_ret3
        show Done _ _ _ _
        rw [Hst.out]
        exact ⟨_, rfl, Hown.out, Hb.out⟩

theorem refDo_calls (is : Bool) (value : List UInt8) (v : Value) (l : List Act) (w : World) (hvl : value.length ≤ 140737488351232) (hl : l.length ≤ 1000000) (hok : ∀ a ∈ l, a.Ok) (h : ActsAt w.heap.size w v l) :
    Calls Tryz.prog 17 #[.bool is, S value, v] w (Done w (doAll (begun is value) l)) := by
  cases is
  · exact refDo_false value v l w hvl hl hok h
  · exact refDo_true value v l w hvl hl hok h
end Go.Proofs.YtahckodhnkloeaaGreatDoor

/- Walk: act.Keys: the keys of acts, each once, in order. -/
import Derived.Test.YtahckodhnkloeaaGreatDoorDo
import Derived.Test.YtahckodhnkloeaaGreatDoorPlainKeys
import Derived.Test.YtahckodhnkloeaaGreatDoorShelf
import Derived.Sort.OwnSorted
import Derived.Lib.OwnBridge
namespace Go.Proofs.YtahckodhnkloeaaGreatDoor
open Go Go.RowKit Go.Sort

theorem infoStr : (Tryz.prog.info? 9).map (fun i => (i.zero, i.size, i.bytes)) = some (some (.string ⟨#[]⟩), 1, 16) := by kernel_rfl

/-- A list of keys, as a call's own row. -/
def OwnsTexts (base : Nat) (w : World) (v : Value) (l : List Txt) : Prop := w.ownsRow base 9 1 v l.length (l.map encStr)

def KeysDone (l : List Act) (w : World) (e : Ending) (w' : World) : Prop :=
  ∃ v, e = .returned v ∧ OwnsTexts w.heap.size w' v (keysOf (l.map Act.key)) ∧ Below w.heap.size w w'

theorem keys_end {w w1 : World} {g cap n nn q : Nat} {os : Array Obj} {ss : List Txt} (hown : w1.ownsRow w.heap.size 9 1 (.slice (some ⟨g, 0, none⟩) n cap) n (ss.map encStr)) (hbel : Below w.heap.size w w1) (hbg : w.heap.size ≤ g) (hlen : ss.length = n) :
    OwnsTexts w.heap.size (putRow encStr (Sort.ahead (grow (putRow encStr (Sort.ahead w1 nn) g 0 (ss.mergeSort fun x y => decide (x ≤ y)).toArray) os) q) g 0 (Lib.compact (ss.mergeSort fun x y => decide (x ≤ y)) ++ List.replicate (n - (Lib.compact (ss.mergeSort fun x y => decide (x ≤ y))).length) []).toArray) (.slice (some ⟨g, 0, none⟩) (keysOf ss).length cap) (keysOf ss) ∧
    Below w.heap.size w (putRow encStr (Sort.ahead (grow (putRow encStr (Sort.ahead w1 nn) g 0 (ss.mergeSort fun x y => decide (x ≤ y)).toArray) os) q) g 0 (Lib.compact (ss.mergeSort fun x y => decide (x ≤ y)) ++ List.replicate (n - (Lib.compact (ss.mergeSort fun x y => decide (x ≤ y))).length) []).toArray) := by
  have hl2 : (ss.mergeSort fun x y => decide (x ≤ y)).length = ss.length := List.length_mergeSort ss
  have hle := Lib.compact_length_le (ss.mergeSort fun x y => decide (x ≤ y))
  subst hlen
  rcases hown.2 with ⟨h0, _⟩ | ⟨g', cap', cur, hv, hbase, hb, h1, h2, h3, h4⟩
  · cases h0
  cases hv
  have hs := ownsRow_sorted (n := nn) (os := os) (ts := ss.mergeSort fun x y => decide (x ≤ y)) hl2 hbase hb h1 h2 h3
  have hc := Lib.ownsRow_putRow (q := q) (k := (Lib.compact (ss.mergeSort fun x y => decide (x ≤ y))).length) (ys := Lib.compact (ss.mergeSort fun x y => decide (x ≤ y)) ++ List.replicate (ss.length - (Lib.compact (ss.mergeSort fun x y => decide (x ≤ y))).length) []) hs (by simp; omega) (by omega)
  rw [List.take_left] at hc
  exact ⟨hc, Lib.below_putRow (hbel.grown (grownBy_sorted _) hbel.size (fun j hj => by cases hj; exact hbase)) hbg⟩

theorem own_snoc {base : Nat} {w : World} {v : Value} {l : List Act} {k : Nat} (h : k < l.length) {n : Nat} (hn : n = k + 1)
    (hown : w.ownsRow base 9 1 v n ((l.take k).map (fun a => encStr a.key) ++ [Value.string ⟨l[k].key.toArray⟩])) : w.ownsRow base 9 1 v (k + 1) ((l.take (k + 1)).map (fun a => encStr a.key)) := by
  subst hn
  rw [List.take_succ_eq_append_getElem h, List.map_append]
  exact hown

set_option maxRecDepth 100000 in
set_option maxHeartbeats 2000000 in
theorem keys_calls (l : List Act) (hl : l.length ≤ 1000000) (v : Value) (w : World) (h : ActsAt w.heap.size w v l) :
    Calls Tryz.prog 27 #[v] w (KeysDone l w) := by
  obtain ⟨i0, hi, hz0, hz1, hz2⟩ := info_parts infoStr
  obtain ⟨ao, cap, rfl, hlc, hcap, hc⟩ := acts_slice h
  have Hc := Lib.hid hc; clear hc h
  go_enter Tryz.func27, Tryz.ntmps27
  go_wp2_with fail
  go_loopw [3, 8] (fun o i wr => ∃ k : Nat, k ≤ l.length ∧ i = .int .i64 k ∧ Hid (wr.ownsRow w.heap.size 9 1 o k ((l.take k).map (fun a => encStr a.key))) ∧ (∃ a n c, o = .slice a n c) ∧ Hid (Below w.heap.size w wr)) (fun _ i _ => l.length - (intOf i).toNat)
  case atStart => exact ⟨0, Nat.zero_le _, rfl, ⟨rfl, .inl ⟨rfl, rfl⟩⟩, ⟨_, _, _, rfl⟩, Below.refl _ _⟩
  case round =>
    obtain ⟨k, hk, rfl, hown, ⟨oa, on, oc, rfl⟩, hb⟩ := hrel
    by_cases hlt : k < l.length
    · obtain ⟨b, off, e, hbl, hact⟩ := Hc.out k hlt
      subst e
      have hact := hact.keeps hb.out hbl
      have c0 := hact.c0
      have c1 := hact.c1
      have c2 := hact.c2
      have c3 := hact.c3
      clear hact
      have hsn := Lib.hid (fun w' v' n (hn : n = k + 1) ho => @own_snoc w.heap.size w' v' l k hlt n hn ho)
      generalize l[k] = a at *
      obtain ⟨kd, key, val, num⟩ := a
      unfold S at c1 c2
      simp only at c0 c1 c2 c3
      have i1 : (0 : Int) ≤ (k : Int) := by omega
      have i2 : (k : Int) < (l.length : Int) := by omega
      have hsz := hb.out.size
      go_wp2_with (first
        | (at_builtin; refine wpList_append_own _ rfl _ _ 39 rfl w.heap.size 9 i0 (.string ⟨#[]⟩) 1 16 Tryz.underlying39 hi hz0 hz1 hz2 rfl (by decide) _ _ _ rfl ((hown.out.alloc _).alloc _) ⟨wr.heap.size + 1, 0, none⟩ 1 1 [.string ⟨key.toArray⟩] rfl rfl ?c1 ?c2 ?c3 ?c4 ?c5 ?_))
      try case c1 =>
        intro j u hj
        match j, hj with
        | 0, hj => simp at hj; subst hj; simp [Addr.add]
      try case c2 => rfl
      try case c3 => unfold maxLen; omega
      try case c4 => omega
      try case c5 => first | omega | (simp; omega)
      intro v' w1 hown1 hgrow _
      have hb1 : Below w.heap.size w w1 := (((hb.out.alloc hsz _).alloc (by simp; omega) _).grown hgrow (by simp; omega) (fun k hk => (hown.out.lt k hk).1))
      have Hown1 := Lib.hid (hsn.out w1 v' _ rfl (by simpa using hown1))
      have Hb1 := Lib.hid hb1
      clear hown1 hgrow hb1 hsn hown hb
      go_wp2_with fail
      refine ⟨⟨k + 1, by omega, by go_num, Hown1.out, ?_, Hb1.out⟩, by simp [intOf]; omega⟩
      rcases Hown1.out.2 with ⟨h, _⟩ | ⟨_, _, _, h, _⟩
      · exact ⟨_, _, _, h⟩
      · exact ⟨_, _, _, h⟩
    · obtain rfl : k = l.length := by omega
      have hown' := hown.out
      rw [List.take_of_length_le (Nat.le_refl _), show (fun a : Act => encStr a.key) = encStr ∘ Act.key from rfl, ← List.map_map] at hown'
      generalize hss : l.map Act.key = ss at hown'
      have hlen : ss.length = l.length := by rw [← hss]; simp
      have hkd : ∀ v w', OwnsTexts w.heap.size w' v (keysOf ss) → Below w.heap.size w w' → KeysDone l w (.returned v) w' := fun v w' h1 h2 => ⟨v, rfl, by rw [hss]; exact h1, h2⟩
      have Hkd := Lib.hid hkd; clear hkd
      have Hown := Lib.hid hown'; clear hown' hown
      have Hb := Lib.hid hb.out; clear hb
      clear hss Hc
      generalize l.length = n at *
      rcases Hown.out.2 with ⟨h0, h1⟩ | ⟨g, gcap, cur, h0, hbase, hg, h1, h2, h3, h4⟩
      · have hn0 : n = 0 := h1
        obtain rfl : ss = [] := List.length_eq_zero_iff.1 (by omega)
        rw [h0]
        cases h0
        go_wp2_with fail
        refine (Tryz.slices_Sort_string_none none 0 wr).mono ?_
        rintro e w1 ⟨rfl, rfl⟩
        go_wp2_with fail
        refine (Tryz.slices_Compact_string_empty none 0 w1).mono ?_
        rintro e w2 ⟨rfl, rfl⟩
        go_wp2_with fail
        go_ret
        exact Hkd.out _ _ (by rw [keysOf_nil]; exact ⟨rfl, .inl ⟨rfl, rfl⟩⟩) Hb.out
      · obtain ⟨e1, e2, e3⟩ := Value.slice.inj h0
        replace e1 := e1.symm
        replace e2 := e2.symm
        replace e3 := e3.symm
        subst e1
        subst e2
        subst e3
        clear h0
        have hH : Holds encStr wr g 0 ss.toArray := holds_of_block hg (by rw [hlen]; simpa using h4)
        have hgl : g < wr.heap.size := (Array.getElem?_eq_some_iff.1 hg).1
        have HH := Lib.hid hH; clear hH
        have Hg := Lib.hid hg; clear hg
        clear h3 h4
        have hsort := Lib.hid (Tryz.slices_Sort_string g 0 gcap ss wr HH.out hgl (by omega))
        go_wp2_with fail
        have hsort := hsort.out
        rw [hlen] at hsort
        refine hsort.mono ?_
        rintro e w2 ⟨rfl, nn, os, rfl⟩
        have hl2 : (ss.mergeSort fun x y => decide (x ≤ y)).length = n := by rw [List.length_mergeSort]; exact hlen
        have hH2 : Holds encStr (grow (putRow encStr (Sort.ahead wr nn) g 0 (ss.mergeSort fun x y => decide (x ≤ y)).toArray) os) g 0 (ss.mergeSort fun x y => decide (x ≤ y)).toArray :=
          holds_grow encStr _ os g 0 _ (by simpa [putRow, mapBlock, Sort.ahead] using hgl) (holds_putRow encStr _ g 0 _ _ (holds_ahead encStr wr nn g 0 _ HH.out) (by simp))
        have hcomp := Tryz.slices_Compact_string g 0 gcap (ss.mergeSort fun x y => decide (x ≤ y)) _ hH2 (by omega) (by omega)
        rw [hl2] at hcomp
        have hend := fun q => keys_end (w := w) (w1 := wr) (nn := nn) (q := q) (os := os) Hown.out Hb.out hbase hlen
        clear hH2 hsort
        generalize grow (putRow encStr (Sort.ahead wr nn) g 0 (ss.mergeSort fun x y => decide (x ≤ y)).toArray) os = w2 at *
        have Hend := Lib.hid hend; clear hend
        have Hcomp := Lib.hid hcomp; clear hcomp
        go_wp2_with fail
        refine Hcomp.out.mono ?_
        rintro e w3 ⟨rfl, q, rfl⟩
        have He := Lib.hid (Hend.out q); clear Hend
        generalize putRow encStr (Sort.ahead w2 q) g 0 _ = w3 at *
        have e0 : (Lib.compact (ss.mergeSort fun x y => decide (x ≤ y))) = keysOf ss := rfl
        rw [e0]
        generalize keysOf ss = ks at *
        go_wp2_with fail
        go_ret
        exact Hkd.out _ _ He.out.1 He.out.2
end Go.Proofs.YtahckodhnkloeaaGreatDoor

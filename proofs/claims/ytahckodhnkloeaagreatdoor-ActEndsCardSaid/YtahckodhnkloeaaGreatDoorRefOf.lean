/- Walk: the reference's Of: the acts of one key. -/
import Derived.Test.YtahckodhnkloeaaGreatDoorOf
namespace Go.Proofs.YtahckodhnkloeaaGreatDoor
open Go Go.RowKit

set_option maxRecDepth 100000 in
set_option maxHeartbeats 2000000 in
theorem refOf_calls (key : Txt) (l : List Act) (hl : l.length ≤ 1000000) (v : Value) (w : World) (h : ActsAt w.heap.size w v l) :
    Calls Tryz.prog 30 #[S key, v] w (OfDone key l w) := by
  obtain ⟨i0, hi, hz0, hz1, hz2⟩ := info_parts infoAct
  obtain ⟨ao, cap, rfl, hlc, hcap, hc⟩ := acts_slice h
  have Hc := Lib.hid hc; clear hc h
  unfold S
  go_enter Tryz.func30, Tryz.ntmps30
  go_wp2_with fail
  go_loopw [5, 6] (fun o i wr => ∃ k : Nat, k ≤ l.length ∧ i = .int .i64 k ∧ Hid (OwnsActs w.heap.size wr o (ofKey key (l.take k))) ∧ (∃ a n c, o = .slice a n c) ∧ Hid (Below w.heap.size w wr)) (fun _ i _ => l.length - (intOf i).toNat)
  case atStart => exact ⟨0, Nat.zero_le _, rfl, ⟨rfl, .inl ⟨rfl, rfl⟩⟩, ⟨_, _, _, rfl⟩, Below.refl _ _⟩
  case round =>
    obtain ⟨k, hk, rfl, hown, ⟨oa, on, oc, rfl⟩, hb⟩ := hrel
    by_cases hlt : k < l.length
    · obtain ⟨b, off, e, hbl, hact⟩ := Hc.out k hlt
      subst e
      have hact := hact.keeps hb.out hbl
      have c0 := hact.c0
      have c1 := hact.c1
      have c2 := hact.c2
      have c3 := hact.c3
      clear hact
      have hyes := Lib.hid (fun w' v' (hk : l[k].key = key) ho => @of_yes w.heap.size w' v' key l k hlt hk ho)
      have hno := Lib.hid (fun w' v' (hk : l[k].key ≠ key) ho => @of_no w.heap.size w' v' key l k hlt hk ho)
      have hlen : (ofKey key (l.take k)).length ≤ 1000000 := Nat.le_trans (ofKey_len _ _) (by rw [List.length_take]; omega)
      have Hlen := Lib.hid hlen; clear hlen
      have hcl := Lib.hid (actCells_len (ofKey key (l.take k)))
      have hownR := Lib.hid (show wr.ownsRow w.heap.size 51 4 (.slice oa on oc) (ofKey key (l.take k)).length (actCells (ofKey key (l.take k))) from hown.out)
      have hownA := Lib.hid (show OwnsActs w.heap.size wr (.slice oa on oc) (ofKey key (l.take k)) from hown.out)
      clear hown
      generalize actCells (ofKey key (l.take k)) = xs at *
      generalize (ofKey key (l.take k)).length = m at *
      generalize l[k] = a at *
      obtain ⟨kd, akey, val, num⟩ := a
      unfold S at c1 c2
      simp only at c0 c1 c2 c3
      have i1 : (0 : Int) ≤ (k : Int) := by omega
      have i2 : (k : Int) < (l.length : Int) := by omega
      have hsz := hb.out.size
      have h63 := Hlen.out
      by_cases hkey : akey = key
      · subst hkey
        go_wp2_with (first
          | (at_builtin; refine wpList_append_own _ rfl _ _ 22 rfl w.heap.size 51 i0 (.agg #[.int .u8 0, .string ⟨#[]⟩, .string ⟨#[]⟩, .int .i64 0]) 4 48 Tryz.underlying22 hi hz0 hz1 hz2 rfl (by decide) _ m xs rfl (hownR.out.alloc _) ⟨wr.heap.size, 0, none⟩ 1 1 [.int .u8 kd, .string ⟨akey.toArray⟩, .string ⟨val.toArray⟩, .int .i64 num] rfl rfl ?c1 ?c2 ?c3 ?c4 ?c5 ?_))
        try case c1 =>
          intro j u hj
          match j, hj with
          | 0, hj => simp at hj; subst hj; simp [Addr.add]
          | 1, hj => simp at hj; subst hj; simp [Addr.add]
          | 2, hj => simp at hj; subst hj; simp [Addr.add]
          | 3, hj => simp at hj; subst hj; simp [Addr.add]
        try case c2 => exact ⟨rfl, rfl, rfl, rfl⟩
        try case c3 => unfold maxLen; omega
        try case c4 => omega
        try case c5 => first | omega | (simp; omega)
        intro v' w1 hown1 hgrow _
        have hb1 : Below w.heap.size w w1 := ((hb.out.alloc hsz _).grown hgrow (by simp; omega) (fun k hk => (hownR.out.lt k hk).1))
        have Hown1 := Lib.hid (hyes.out w1 v' trivial hown1)
        have Hb1 := Lib.hid hb1
        obtain ⟨a1, n1, c1', rfl⟩ := owns_slice hown1
        clear hown1 hgrow hb1 hyes hno hownR hownA hb
        go_wp2_with fail
        exact ⟨⟨k + 1, by omega, by go_num, Hown1.out, ⟨_, _, _, rfl⟩, Hb1.out⟩, by simp [intOf]; omega⟩
      · have hne : (akey == key) = false := by simpa using hkey
        have Hown1 := Lib.hid (hno.out wr _ hkey hownA.out)
        have Hb1 := Lib.hid hb.out
        have Hown2 := Hown1
        clear hyes hno hownR hownA hb Hown1
        go_wp2_with fail
        exact ⟨⟨k + 1, by omega, by go_num, Hown2.out, ⟨_, _, _, rfl⟩, Hb1.out⟩, by simp [intOf]; omega⟩
    · obtain rfl : k = l.length := by omega
      have hown' := Lib.hid hown.out
      rw [List.take_of_length_le (Nat.le_refl _)] at hown'
      go_wp2_with fail
      go_ret
      exact ⟨_, rfl, hown'.out, hb.out⟩
end Go.Proofs.YtahckodhnkloeaaGreatDoor

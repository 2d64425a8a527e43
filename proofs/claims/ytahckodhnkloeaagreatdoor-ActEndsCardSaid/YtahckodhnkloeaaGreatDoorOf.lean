/- Walk: act.Of: the acts of one key. -/
import Derived.Test.YtahckodhnkloeaaGreatDoorDo
import Derived.Test.YtahckodhnkloeaaGreatDoorPlainKeys
namespace Go.Proofs.YtahckodhnkloeaaGreatDoor
open Go Go.RowKit

theorem infoAct : (Tryz.prog.info? 51).map (fun i => (i.zero, i.size, i.bytes)) = some (some (.agg #[.int .u8 0, .string ⟨#[]⟩, .string ⟨#[]⟩, .int .i64 0]), 4, 48) := by kernel_rfl
def Act.cells (a : Act) : List Value := [.int .u8 a.kind, S a.key, S a.value, .int .i64 a.num]
def actCells (l : List Act) : List Value := l.flatMap Act.cells
theorem actCells_len (l : List Act) : (actCells l).length = l.length * 4 := by
  induction l with
  | nil => rfl
  | cons a r ih => show (a.cells ++ actCells r).length = _; rw [List.length_append, ih]; simp [Act.cells]; omega
theorem actCells_snoc (l : List Act) (a : Act) : actCells (l ++ [a]) = actCells l ++ a.cells := by simp [actCells]
/-- The acts of a key. -/
def ofKey (key : Txt) (l : List Act) : List Act := l.filter fun a => decide (a.key = key)
theorem ofKey_yes {key : Txt} {l : List Act} {k : Nat} (h : k < l.length) (hk : l[k].key = key) : ofKey key (l.take (k + 1)) = ofKey key (l.take k) ++ [l[k]] := by
  unfold ofKey
  rw [List.take_succ_eq_append_getElem h, List.filter_append]
  simp [hk]
theorem ofKey_no {key : Txt} {l : List Act} {k : Nat} (h : k < l.length) (hk : l[k].key ≠ key) : ofKey key (l.take (k + 1)) = ofKey key (l.take k) := by
  unfold ofKey
  rw [List.take_succ_eq_append_getElem h, List.filter_append]
  simp [hk]
theorem ofKey_len (key : Txt) (l : List Act) : (ofKey key l).length ≤ l.length := List.length_filter_le _ _

def OwnsActs (base : Nat) (w : World) (v : Value) (l : List Act) : Prop := w.ownsRow base 51 4 v l.length (actCells l)
def OfDone (key : Txt) (l : List Act) (w : World) (e : Ending) (w' : World) : Prop :=
  ∃ v, e = .returned v ∧ OwnsActs w.heap.size w' v (ofKey key l) ∧ Below w.heap.size w w'
theorem owns_slice {base : Nat} {w : World} {v : Value} {e : TypeId} {s n : Nat} {xs : List Value} (h : w.ownsRow base e s v n xs) : ∃ a n' c, v = .slice a n' c := by
  rcases h.2 with ⟨h, _⟩ | ⟨_, _, _, h, _⟩
  · exact ⟨_, _, _, h⟩
  · exact ⟨_, _, _, h⟩
theorem of_yes {base : Nat} {w' : World} {v' : Value} {key : Txt} {l : List Act} {k : Nat} (h : k < l.length) (hk : l[k].key = key) (ho : w'.ownsRow base 51 4 v' ((ofKey key (l.take k)).length + 1) (actCells (ofKey key (l.take k)) ++ Act.cells l[k])) : OwnsActs base w' v' (ofKey key (l.take (k + 1))) := by
  unfold OwnsActs
  rw [ofKey_yes h hk, actCells_snoc, List.length_append]
  exact ho
theorem of_no {base : Nat} {w' : World} {v' : Value} {key : Txt} {l : List Act} {k : Nat} (h : k < l.length) (hk : l[k].key ≠ key) (ho : OwnsActs base w' v' (ofKey key (l.take k))) : OwnsActs base w' v' (ofKey key (l.take (k + 1))) := by
  rw [ofKey_no h hk]; exact ho

set_option maxRecDepth 100000 in
set_option maxHeartbeats 2000000 in
theorem of_calls (key : Txt) (l : List Act) (hl : l.length ≤ 1000000) (v : Value) (w : World) (h : ActsAt w.heap.size w v l) :
    Calls Tryz.prog 25 #[S key, v] w (OfDone key l w) := by
  obtain ⟨i0, hi, hz0, hz1, hz2⟩ := info_parts infoAct
  obtain ⟨ao, cap, rfl, hlc, hcap, hc⟩ := acts_slice h
  have Hc := Lib.hid hc; clear hc h
  unfold S
  go_enter Tryz.func25, Tryz.ntmps25
  go_wp2_with fail
  go_loopw [5, 10] (fun o i wr => ∃ k : Nat, k ≤ l.length ∧ i = .int .i64 k ∧ Hid (OwnsActs w.heap.size wr o (ofKey key (l.take k))) ∧ (∃ a n c, o = .slice a n c) ∧ Hid (Below w.heap.size w wr)) (fun _ i _ => l.length - (intOf i).toNat)
  case atStart => exact ⟨0, Nat.zero_le _, rfl, ⟨rfl, .inl ⟨rfl, rfl⟩⟩, ⟨_, _, _, rfl⟩, Below.refl _ _⟩
  case round =>
    obtain ⟨k, hk, rfl, hown, ⟨oa, on, oc, rfl⟩, hb⟩ := hrel
    by_cases hlt : k < l.length
    · obtain ⟨b, off, e, hbl, hact⟩ := Hc.out k hlt
      subst e
      have hact := hact.keeps hb.out hbl
      have c0 := hact.c0
      have c1 := hact.c1
      have c2 := hact.c2
      have c3 := hact.c3
      clear hact
      have hyes := Lib.hid (fun w' v' (hk : l[k].key = key) ho => @of_yes w.heap.size w' v' key l k hlt hk ho)
      have hno := Lib.hid (fun w' v' (hk : l[k].key ≠ key) ho => @of_no w.heap.size w' v' key l k hlt hk ho)
      have hlen : (ofKey key (l.take k)).length ≤ 1000000 := Nat.le_trans (ofKey_len _ _) (by rw [List.length_take]; omega)
      have Hlen := Lib.hid hlen; clear hlen
      have hcl := Lib.hid (actCells_len (ofKey key (l.take k)))
      have hownR := Lib.hid (show wr.ownsRow w.heap.size 51 4 (.slice oa on oc) (ofKey key (l.take k)).length (actCells (ofKey key (l.take k))) from hown.out)
      have hownA := Lib.hid (show OwnsActs w.heap.size wr (.slice oa on oc) (ofKey key (l.take k)) from hown.out)
      clear hown
      generalize actCells (ofKey key (l.take k)) = xs at *
      generalize (ofKey key (l.take k)).length = m at *
      generalize l[k] = a at *
      obtain ⟨kd, akey, val, num⟩ := a
      unfold S at c1 c2
      simp only at c0 c1 c2 c3
      have i1 : (0 : Int) ≤ (k : Int) := by omega
      have i2 : (k : Int) < (l.length : Int) := by omega
      have hsz := hb.out.size
      have h63 := Hlen.out
      by_cases hkey : akey = key
      · subst hkey
        go_wp2_with (first
          | (at_builtin; refine wpList_append_own _ rfl _ _ 22 rfl w.heap.size 51 i0 (.agg #[.int .u8 0, .string ⟨#[]⟩, .string ⟨#[]⟩, .int .i64 0]) 4 48 Tryz.underlying22 hi hz0 hz1 hz2 rfl (by decide) _ m xs rfl ((hownR.out.alloc _).alloc _) ⟨wr.heap.size + 1, 0, none⟩ 1 1 [.int .u8 kd, .string ⟨akey.toArray⟩, .string ⟨val.toArray⟩, .int .i64 num] rfl rfl ?c1 ?c2 ?c3 ?c4 ?c5 ?_))
        try case c1 =>
          intro j u hj
          match j, hj with
          | 0, hj => simp at hj; subst hj; simp [Addr.add]
          | 1, hj => simp at hj; subst hj; simp [Addr.add]
          | 2, hj => simp at hj; subst hj; simp [Addr.add]
          | 3, hj => simp at hj; subst hj; simp [Addr.add]
        try case c2 => exact ⟨rfl, rfl, rfl, rfl⟩
        try case c3 => unfold maxLen; omega
        try case c4 => omega
        try case c5 => first | omega | (simp; omega)
        intro v' w1 hown1 hgrow _
        have hb1 : Below w.heap.size w w1 := (((hb.out.alloc hsz _).alloc (by simp; omega) _).grown hgrow (by simp; omega) (fun k hk => (hownR.out.lt k hk).1))
        have Hown1 := Lib.hid (hyes.out w1 v' trivial hown1)
        have Hb1 := Lib.hid hb1
        obtain ⟨a1, n1, c1', rfl⟩ := owns_slice hown1
        clear hown1 hgrow hb1 hyes hno hownR hownA hb
        go_wp2_with fail
        exact ⟨⟨k + 1, by omega, by go_num, Hown1.out, ⟨_, _, _, rfl⟩, Hb1.out⟩, by simp [intOf]; omega⟩
      · have hne : (akey == key) = false := by simpa using hkey
        have Hown1 := Lib.hid (hno.out wr _ hkey hownA.out)
        have Hb1 := Lib.hid (hb.out.alloc hsz (.cells #[.int .u8 kd, .string ⟨akey.toArray⟩, .string ⟨val.toArray⟩, .int .i64 num] 51 (0, 0)))
        have Hown2 := Lib.hid (show OwnsActs w.heap.size (wr.alloc (.cells #[.int .u8 kd, .string ⟨akey.toArray⟩, .string ⟨val.toArray⟩, .int .i64 num] 51 (0, 0))) _ _ from World.ownsRow.alloc Hown1.out _)
        clear hyes hno hownR hownA hb Hown1
        go_wp2_with fail
        exact ⟨⟨k + 1, by omega, by go_num, Hown2.out, ⟨_, _, _, rfl⟩, Hb1.out⟩, by simp [intOf]; omega⟩
    · obtain rfl : k = l.length := by omega
      have hown' := Lib.hid hown.out
      rw [List.take_of_length_le (Nat.le_refl _)] at hown'
      go_wp2_with fail
      go_ret
      exact ⟨_, rfl, hown'.out, hb.out⟩
end Go.Proofs.YtahckodhnkloeaaGreatDoor

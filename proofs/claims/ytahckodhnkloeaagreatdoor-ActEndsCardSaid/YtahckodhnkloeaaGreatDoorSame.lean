/- Walks: SameTexts, SameActs, where both hold the same. -/
import Derived.Test.YtahckodhnkloeaaGreatDoorKit
import Derived.Laws.StructEq
namespace Go.Proofs.YtahckodhnkloeaaGreatDoor
open Go Go.RowKit

set_option maxRecDepth 100000 in
set_option maxHeartbeats 2000000 in
theorem sameTexts_calls (l : List (List UInt8)) (hl : l.length ≤ 140737488351232) (v v' : Value) (w : World) (h : TextsAt w.heap.size w v l) (h' : TextsAt w.heap.size w v' l) :
    Calls Tryz.prog 26 #[v, v'] w fun e w' => e = .returned (.bool true) ∧ Below w.heap.size w w' := by
  obtain ⟨ao, cap, rfl, hlc, hc⟩ := h
  obtain ⟨ao', cap', rfl, hlc', hc'⟩ := h'
  have Hc := Lib.hid hc; clear hc
  have Hc' := Lib.hid hc'; clear hc'
  go_enter Tryz.func26, Tryz.ntmps26
  go_wp2_with fail
  go_loopw [5] (fun i wr => ∃ k : Nat, k ≤ l.length ∧ i = .int .i64 k ∧ Hid (Below w.heap.size w wr)) (fun i _ => l.length - (intOf i).toNat)
  case atStart => exact ⟨0, Nat.zero_le _, rfl, Below.refl _ _⟩
  case round =>
    obtain ⟨k, hk, rfl, hb⟩ := hrel
    by_cases hlt : k < l.length
    · obtain ⟨b, off, e, hbl, c0⟩ := Hc.out k hlt
      obtain ⟨b', off', e', hbl', c0'⟩ := Hc'.out k hlt
      subst e e'
      replace c0 := (hb.out.cell (p := ⟨b, off + k, none⟩) hbl).trans c0
      replace c0' := (hb.out.cell (p := ⟨b', off' + k, none⟩) hbl').trans c0'
      generalize l[k] = r at *
      unfold S at *
      have i0 : (0 : Int) ≤ (k : Int) := by omega
      have i1 : (k : Int) < (l.length : Int) := by omega
      go_wp2_with fail
      go_quiet (fail)
      go_wp2_with fail
      exact ⟨⟨k + 1, by omega, by go_num, below_drewN hb.out _⟩, by simp [intOf]; omega⟩
    · obtain rfl : k = l.length := by omega
      go_wp2_with fail
      go_ret
      exact ⟨rfl, hb.out⟩

set_option maxRecDepth 100000 in
set_option maxHeartbeats 2000000 in
theorem sameActs_calls (l : List Act) (v v' : Value) (w : World) (h : ActsAt w.heap.size w v l) (h' : ActsAt w.heap.size w v' l) :
    Calls Tryz.prog 29 #[v, v'] w fun e w' => e = .returned (.bool true) ∧ Below w.heap.size w w' := by
  obtain ⟨ao, cap, rfl, hlc, _, hc⟩ := acts_slice h
  obtain ⟨ao', cap', rfl, hlc', _, hc'⟩ := acts_slice h'
  clear h h'
  have Hc := Lib.hid hc; clear hc
  have Hc' := Lib.hid hc'; clear hc'
  go_enter Tryz.func29, Tryz.ntmps29
  go_wp2_with fail
  go_loopw [5] (fun i wr => ∃ k : Nat, k ≤ l.length ∧ i = .int .i64 k ∧ Hid (Below w.heap.size w wr)) (fun i _ => l.length - (intOf i).toNat)
  case atStart => exact ⟨0, Nat.zero_le _, rfl, Below.refl _ _⟩
  case round =>
    obtain ⟨k, hk, rfl, hb⟩ := hrel
    by_cases hlt : k < l.length
    · obtain ⟨b, off, e, hbl, hact⟩ := Hc.out k hlt
      obtain ⟨b', off', e', hbl', hact'⟩ := Hc'.out k hlt
      subst e e'
      have hact := hact.keeps hb.out hbl
      have hact' := hact'.keeps hb.out hbl'
      have c0 := hact.c0
      have c1 := hact.c1
      have c2 := hact.c2
      have c3 := hact.c3
      have d0 := hact'.c0
      have d1 := hact'.c1
      have d2 := hact'.c2
      have d3 := hact'.c3
      clear hact hact'
      generalize l[k] = r at *
      obtain ⟨kd, key, val, num⟩ := r
      unfold S at *
      simp only at c0 c1 c2 c3 d0 d1 d2 d3
      have i0 : (0 : Int) ≤ (k : Int) := by omega
      have i1 : (k : Int) < (l.length : Int) := by omega
      go_wp2_with fail
      go_quiet (fail)
      go_wp2_with fail
      exact ⟨⟨k + 1, by omega, by go_num, below_drewN hb.out _⟩, by simp [intOf]; omega⟩
    · obtain rfl : k = l.length := by omega
      go_wp2_with fail
      go_ret
      exact ⟨rfl, hb.out⟩
end Go.Proofs.YtahckodhnkloeaaGreatDoor

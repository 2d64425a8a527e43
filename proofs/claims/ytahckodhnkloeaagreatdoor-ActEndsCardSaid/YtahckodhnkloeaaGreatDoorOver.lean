/- Walk: OverActs: a list of the call's own, written over with marks, its spare room too. -/
import Derived.Test.YtahckodhnkloeaaGreatDoorLent
import Derived.Deep.MidRow
import Derived.Lib.LazyBuf
namespace Go.Proofs.YtahckodhnkloeaaGreatDoor
open Go Go.RowKit

theorem there_block {w w' : World} {b o n : Nat} (h : w.there b o n) (hb : w'.heap[b]? = w.heap[b]?) : w'.there b o n := fun j hj => by
  obtain ⟨h1, h2⟩ := h j hj
  rw [World.cell?_of_block (a := ⟨b, o + j, none⟩) hb, World.frozen?_of_block (a := ⟨b, o + j, none⟩) hb]
  exact ⟨h1, h2⟩
theorem there_part {w : World} {b n k m : Nat} (h : w.there b 0 n) (hk : k + m ≤ n) : w.there b k m := fun j hj => by
  have := h (k + j) (by omega)
  simpa using this
theorem there_row {w : World} {g cap : Nat} {cur : Array Value} {e : TypeId} (hg : w.heap[g]? = some (.cells cur e (0, 0))) (hs : cur.size = cap * 4) (m : Nat) (hm : m ≤ cap) : w.there g 0 (m * 4) := fun j hj => by
  simp only [World.cell?, World.frozen?, hg, Nat.zero_add]
  simp only [Option.isSome_none, Bool.false_eq_true, if_false]
  refine ⟨?_, by simp⟩
  rw [Array.getElem?_eq_getElem (by omega)]; rfl

set_option maxRecDepth 100000 in
set_option maxHeartbeats 600000 in
theorem over_calls (base : Nat) (v : Value) (n : Nat) (xs : List Value) (hn : n ≤ 1000000) (w : World) (hbase : base ≤ w.heap.size) (hown : w.ownsRow base 51 4 v n xs) :
    Calls Tryz.prog 31 #[v] w fun e w' => e = .returned (.tuple #[]) ∧ Below base w w' := by
  rcases hown.2 with ⟨rfl, rfl⟩ | ⟨g, gcap, cur, rfl, hbg, hg, h1, h2, h3, _⟩
  · have hz : ∀ W, (Instr.slice 22 (.slice none 0 0) none (some (.int .i64 0)) none).run Tryz.prog W = .ok (.slice none 0 0) W := fun W => by
      have := run_slice_h W 22 none 0 0 (by kernel_rfl : Tryz.prog.underlying 22 = some (.slice (Tryz.prog.elem 22))) .i64 0 (by omega) (by omega)
      have this : (Instr.slice 22 (.slice none 0 0) none (some (.int .i64 0)) none).run Tryz.prog W = _ := this
      rw [this, (by kernel_rfl : (sizeOf (Tryz.prog.elem 22)).run Tryz.prog W = .ok 4 W)]; rfl
    clear hown
    go_enter Tryz.func31, Tryz.ntmps31
    go_wp2_with fail
    go_rounds 1
    go_end0
    exact ⟨rfl, Below.refl _ _⟩
  · have hgl : g < w.heap.size := (Array.getElem?_eq_some_iff.1 hg).1
    have h2' : gcap ≤ 9223372036854775807 := h2
    obtain ⟨m, hm⟩ : ∃ m : Nat, min (gcap : Int) ((n : Int) + 12) = (m : Int) := ⟨(min (gcap : Int) ((n : Int) + 12)).toNat, by omega⟩
    have hmc : m ≤ gcap := by omega
    have hm2 : m ≤ 1000012 := by omega
    have hth := Lib.hid (there_row hg h3 m hmc)
    have hcut := fun W => cut_back W ⟨g, 0, none⟩ m n gcap hmc
    have hinfo : (Tryz.prog.info? 51).map (·.size) = some 4 := by kernel_rfl
    clear hown hg h3
    go_enter Tryz.func31, Tryz.ntmps31
    go_wp2_with fail
    go_loopw [3] (fun i wr => ∃ k : Nat, k ≤ m ∧ i = .int .i64 k ∧ Hid (wr.there g 0 (m * 4)) ∧ Hid (g < wr.heap.size) ∧ Hid (Below base w wr)) (fun i _ => m - (intOf i).toNat)
    case atStart => exact ⟨0, Nat.zero_le _, rfl, hth, hgl, Below.refl _ _⟩
    case round =>
      obtain ⟨k, hk, rfl, ht, hgw, hb⟩ := hrel
      by_cases hlt : k < m
      · go_wp2_with fail
        refine (markAct_calls 2 k wr).mono ?_
        rintro e w3 ⟨rfl, hb3⟩
        have Ht3 := Lib.hid (there_block ht.out (hb3.block g hgw.out))
        have Hg3 := Lib.hid (Nat.lt_of_lt_of_le hgw.out hb3.size)
        have Hb3 := Lib.hid (hb.out.trans (hb3.mono (Nat.le_trans hbase hb.out.size)))
        clear ht hgw hb hb3
        unfold Act.agg markA
        generalize markT 2 k = t
        unfold S
        simp only
        have i1 : (0 : Int) ≤ (k : Int) := by omega
        have i2 : (k : Int) < (m : Int) := by omega
        have hst := Lib.hid (show w3.there g (k * 4) (#[.int .u8 0, .string ⟨t.toArray⟩, .string ⟨#[]⟩, .int .i64 0] : Array Value).size from there_part (k := k * 4) (m := 4) Ht3.out (by omega))
        have Ht4 := Lib.hid (World.there_setCells Ht3.out g (k * 4) [.int .u8 0, .string ⟨t.toArray⟩, .string ⟨#[]⟩, .int .i64 0])
        have Hb4 := Lib.hid (Go.below_setCells hbg [.int .u8 0, .string ⟨t.toArray⟩, .string ⟨#[]⟩, .int .i64 0] (k * 4) w3 Hb3.out)
        have Hg4 := Lib.hid (show g < (w3.setCells g (k * 4) [.int .u8 0, .string ⟨t.toArray⟩, .string ⟨#[]⟩, .int .i64 0]).heap.size from Nat.lt_of_lt_of_le hgl Hb4.out.size)
        clear Ht3 Hg3 Hb3
        go_wp2_with (first
          | (refine wpList_store_mid rfl 51 (.tmp 22) (.tmp 21) rfl g (k * 4) #[.int .u8 0, .string ⟨t.toArray⟩, .string ⟨#[]⟩, .int .i64 0] ?x1 ?x2 ?x4 hinfo ?x3 ?_))
        case x2 => rfl
        case x4 => exact hst.out
        case x1 => first | rfl | simp
        case x3 => simp [Value.oneCell']
        generalize w3.setCells g (k * 4) _ = w4 at *
        go_wp2_with fail
        exact ⟨⟨k + 1, by omega, by go_num, Ht4.out, Hg4.out, Hb4.out⟩, by simp [intOf]; omega⟩
      · obtain rfl : k = m := by omega
        go_wp2_with fail
        go_end0
        exact ⟨rfl, hb.out⟩
end Go.Proofs.YtahckodhnkloeaaGreatDoor

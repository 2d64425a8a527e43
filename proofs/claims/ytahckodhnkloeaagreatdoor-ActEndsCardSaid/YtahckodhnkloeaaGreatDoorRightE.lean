/- Walk: act.right, where the value is empty. -/
import Derived.Test.YtahckodhnkloeaaGreatDoorKey
import Derived.Deep.RegionHeld3
import Derived.Deep.DeepCutAuto
namespace Go.Proofs.YtahckodhnkloeaaGreatDoor
open Go Go.RowKit
set_option maxRecDepth 100000 in
set_option maxHeartbeats 2000000 in
theorem right_empty (k n : Int) (key : List UInt8) (hk : key.length ≤ 140737488351232) (w : World) :
    Calls Tryz.prog 75 #[.agg #[.int .u8 k, S key, .string ⟨#[]⟩, .int .i64 n]] w fun e w' => e = .returned (.bool (actB ⟨k, key, [], n⟩)) ∧ Below w.heap.size w w' := by
  obtain ⟨b0, hb0⟩ : ∃ b, (n == 0) = b := ⟨_, rfl⟩
  obtain ⟨b1, hb1⟩ : ∃ b, (n == cutN n) = b := ⟨_, rfl⟩
  go_enter Tryz.func75, Tryz.ntmps75
  unfold S
  go_wp2_with fail
  refine (trim_letters_nil _).mono ?_
  rintro e w1 ⟨rfl, hb⟩
  have c0 := (hb.cell (p := ⟨w.heap.size, 0, none⟩) (by simp)).trans (show _ = some (Value.int .u8 k) by simp)
  have c1 := (hb.cell (p := ⟨w.heap.size, 1, none⟩) (by simp)).trans (show _ = some (Value.string ⟨key.toArray⟩) by simp)
  have c2 := (hb.cell (p := ⟨w.heap.size, 2, none⟩) (by simp)).trans (show _ = some (Value.string ⟨#[]⟩) by simp)
  have c3 := (hb.cell (p := ⟨w.heap.size, 3, none⟩) (by simp)).trans (show _ = some (Value.int .i64 n) by simp)
  have hsz := hb.size
  have Hb := Lib.hid hb; clear hb
  simp at hsz
  have hmk := @run_makeMap Tryz.prog
  have hin := fun l c k v h => run_insert_last (P := Tryz.prog) (w := w1) (mty := 203) Tryz.underlying203 Tryz.underlying49 l c k v h
  have hf0 := fresh_nil .u8
  have hf1 := fresh_cons .u8
  go_upto_region 3 with fail
  go_cut [5] (fun s5 wx => s5 = .map (some w1.heap.size) ∧ Holds3 wx w1.heap.size .u8 (.bool b0) (.bool b0) (.bool b1) ∧ Below w1.heap.size w1 wx)
  case first =>
    go_region_held3 (fun w' => w'.cell? ⟨w.heap.size, 2, none⟩ = some (.string ⟨#[]⟩) ∧ w'.cell? ⟨w.heap.size, 3, none⟩ = some (.int .i64 n))
      (first | go_keep)
      (first | (go_at_call 82; refine (cut_calls _ _).mono ?_; rintro e w' ⟨rfl, rfl⟩))
    all_goals (go_wp2_with fail; go_meet; exact ⟨rfl, ⟨_, _, heap_alloc_new _ _, three_mk _ _ _ _ _ _ _ _ _ _ _ _ _ (by simp)⟩, by go_grown⟩)
  case rest =>
    obtain ⟨rfl, h3, hb2⟩ := hcut
    clear hin hf0 hf1 hmk
    have d0 := (hb2.cell (p := ⟨w.heap.size, 0, none⟩) (by simp; omega)).trans c0
    have d1 := (hb2.cell (p := ⟨w.heap.size, 1, none⟩) (by simp; omega)).trans c1
    have Hb2 := Lib.hid hb2; clear hb2
    clear c0 c1 c2 c3
    have hlook := (h3.look (P := Tryz.prog) (mty := 203) Tryz.underlying203 Tryz.underlying49 (.bool false) (by kernel_rfl) k).1
    clear h3
    obtain ⟨b3, hb3⟩ : ∃ b3, (three k (.bool b0) (.bool b0) (.bool b1)).getD (.bool false) = .bool b3 := by unfold three; split <;> (try split) <;> (try split) <;> exact ⟨_, rfl⟩
    rw [hb3] at hlook
    have hfin := Lib.hid (act_empty k n key b0 b1 b3 hb0 hb1 hb3)
    clear hb0 hb1 hb3
    go_wp2_with fail
    refine (key_calls key hk wc).mono ?_
    rintro e w2 ⟨rfl, rfl⟩
    cases hkb : keyB key
    · rw [hkb] at hfin
      clear hkb
      go_wp2_with fail
      go_ret
      exact ⟨ret_bool hfin.out.symm, up_alloc (up_trans Hb.out Hb2.out)⟩
    · rw [hkb] at hfin
      clear hkb
      go_wp2_with fail
      go_ret
      exact ⟨ret_bool hfin.out.symm, up_alloc (up_trans Hb.out Hb2.out)⟩

end Go.Proofs.YtahckodhnkloeaaGreatDoor

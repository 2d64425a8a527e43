/- Walk: the statements' awake: the document's example is as it must be. -/
import Derived.Test.YtahckodhnkloeaaGreatDoorDo
namespace Go.Proofs.YtahckodhnkloeaaGreatDoor
open Go Go.RowKit

def awakeActs : List Act := [⟨1, [107], [], 0⟩, ⟨3, [107], [], 2⟩, ⟨1, [107], [], 0⟩]
theorem awake_seven : addV [53] 2 = [55] := by
  unfold addV
  have h : numOf [53] = 5 := by decide
  have h2 : cutN (numOf [53] + max (min 2 4294967296) (-4294967296)) = 7 := by rw [h]; decide
  rw [h2, itoa_pos (by omega), decDigits_small (by decide)]
  decide
theorem awake_do : doAll (begun true [53]) awakeActs = ⟨[⟨[107], true, [53]⟩, ⟨[107], true, [53]⟩, ⟨[107], true, [55]⟩], true, true, [55]⟩ := by
  simp [doAll, doOne, awakeActs, begun, awake_seven]
theorem awake_right : actsB awakeActs = true := by decide
theorem awake_ok : ∀ a ∈ awakeActs, a.Ok := by
  intro a ha
  simp only [awakeActs, List.mem_cons, List.mem_nil_iff, or_false] at ha
  rcases ha with rfl | rfl | rfl <;> exact ⟨by decide, by decide, by decide, by decide, by decide, by decide⟩

theorem awake_acts (w : World) : ActsAt (w.alloc (.cells #[.int .u8 1, .string ⟨#[107]⟩, .string ⟨#[]⟩, .int .i64 0, .int .u8 3, .string ⟨#[107]⟩, .string ⟨#[]⟩, .int .i64 2, .int .u8 1, .string ⟨#[107]⟩, .string ⟨#[]⟩, .int .i64 0] 51)).heap.size
    (w.alloc (.cells #[.int .u8 1, .string ⟨#[107]⟩, .string ⟨#[]⟩, .int .i64 0, .int .u8 3, .string ⟨#[107]⟩, .string ⟨#[]⟩, .int .i64 2, .int .u8 1, .string ⟨#[107]⟩, .string ⟨#[]⟩, .int .i64 0] 51)) (.slice (some ⟨w.heap.size, 0, none⟩) 3 3) awakeActs := by
  refine .inr ⟨w.heap.size, 0, 3, rfl, by decide, by decide, by simp, fun i hi => ?_⟩
  match i, hi with
  | 0, _ => exact ⟨by simp [awakeActs], by simp [awakeActs, S], by simp [awakeActs, S], by simp [awakeActs]⟩
  | 1, _ => exact ⟨by simp [awakeActs], by simp [awakeActs, S], by simp [awakeActs, S], by simp [awakeActs]⟩
  | 2, _ => exact ⟨by simp [awakeActs], by simp [awakeActs, S], by simp [awakeActs, S], by simp [awakeActs]⟩
theorem awake_cells {w : World} {base : Nat} {e : TypeId} {v : Value} (h : w.ownsRow base e 3 v 3 (rdCells [⟨[107], true, [53]⟩, ⟨[107], true, [53]⟩, ⟨[107], true, [55]⟩])) :
    ∃ g cap, v = .slice (some ⟨g, 0, none⟩) 3 cap ∧ w.cell? ⟨g, 2, none⟩ = some (S [53]) ∧ w.cell? ⟨g, 5, none⟩ = some (S [53]) ∧ w.cell? ⟨g, 8, none⟩ = some (S [55]) := by
  rcases h.2 with ⟨_, h0⟩ | ⟨g, cap, cur, rfl, _⟩
  · cases h0
  · have hc := h.cells (g := g) rfl
    exact ⟨g, cap, rfl, hc 2 _ rfl, hc 5 _ rfl, hc 8 _ rfl⟩

set_option maxRecDepth 100000 in
set_option maxHeartbeats 2000000 in
theorem awake_calls (w : World) (E : Env w) : Calls Tryz.prog 13 #[] w fun e w' => e = .returned (.bool true) ∧ Below w.heap.size w w' := by
  have HE := Lib.hid E; clear E
  go_enter Tryz.func13, Tryz.ntmps13
  go_wp2_with fail
  have hA := awake_acts w
  have HA := Lib.hid hA; clear hA
  refine (do_calls true [53] _ awakeActs _ (HE.out.keeps ((Below.refl _ _).alloc (Nat.le_refl _) _)) (by simp) (by decide) awake_ok HA.out).mono ?_
  rintro e w2 ⟨v, rfl, hown, hb⟩
  rw [awake_do] at hown ⊢
  have HA2 := Lib.hid (HA.out.keeps hb)
  have HE2 := Lib.hid ((HE.out.keeps ((Below.refl _ _).alloc (Nat.le_refl _) _)).keeps hb)
  have Hb := Lib.hid (up_alloc hb)
  have hsz := hb.size
  obtain ⟨g, cap, rfl, c2, c5, c8⟩ := awake_cells hown
  clear hown hb
  simp only [if_true]
  unfold S at *
  go_wp2_with fail
  refine (actsRight_calls awakeActs (by decide) awake_ok _ w2 (HA2.out.mono hsz)).mono ?_
  rintro e w3 ⟨rfl, hb3⟩
  rw [awake_right]
  have Hb3 := Lib.hid hb3; clear hb3
  go_wp2_with fail
  go_ret
  exact ⟨rfl, up_trans Hb.out Hb3.out⟩
end Go.Proofs.YtahckodhnkloeaaGreatDoor

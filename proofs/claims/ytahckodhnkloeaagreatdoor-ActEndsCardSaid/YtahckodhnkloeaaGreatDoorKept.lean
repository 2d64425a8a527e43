/- Walk: KeptActs: a list that was lent, and the marks behind it, are as they were. -/
import Derived.Test.YtahckodhnkloeaaGreatDoorKd
import Derived.Test.YtahckodhnkloeaaGreatDoorKeptA
namespace Go.Proofs.YtahckodhnkloeaaGreatDoor
open Go Go.RowKit Go.Proofs.YtahckodhnkloeaaGreatDoorW.PrintWords Go.Sort
open PAll (watershedkit_KeptActs.l0 watershedkit_KeptActs.back watershedkit_markAct.f rd_T51)

theorem acts_of_owns {w : World} {base g m cap : Nat} {L : List Act} (h : w.ownsRow base 51 4 (.slice (some ⟨g, 0, none⟩) m cap) m (actCells L)) : ∀ i (hi : i < L.length), ActAt w g (0 + i * 4) L[i] := by
  intro i hi
  have hc := h.cells (g := g) rfl
  obtain ⟨h0, h1, h2, h3⟩ := actCells_at L i hi
  have a0 := hc _ _ h0
  have a1 := hc _ _ h1
  have a2 := hc _ _ h2
  have a3 := hc _ _ h3
  rw [add_zero_addr] at a0 a1 a2 a3
  simp only [Nat.zero_add]
  exact ⟨by simpa using a0, by simpa using a1, by simpa using a2, by simpa using a3⟩
theorem lent_old {l : List Act} {k : Nat} (h : k < l.length) : (l ++ marks 12)[k]'(by rw [List.length_append]; omega) = l[k] := List.getElem_append_left h
theorem lent_mark {l : List Act} {k : Nat} (h : ¬ k < l.length) (h2 : k < l.length + 12) : (l ++ marks 12)[k]'(by rw [List.length_append, marks_len]; exact h2) = markA 1 ((k : Int) - (l.length : Int)) := by
  rw [List.getElem_append_right (by omega)]
  simp only [marks, List.getElem_map, List.getElem_range]
  congr 1; omega
theorem rd_at {l : List Act} {j : Nat} (h : j < l.length) : rd_T51 (l.map s51) (j : Int) = s51 l[j] := by
  unfold rd_T51; simp [h]
theorem ba_list (t : Txt) : (ba t).toList = t := ByteArray.toList_mk t

theorem kept_step {l : List Act} {k i : Nat} (hl : l.length ≤ 900000) (hi : i < l.length + 12) :
    watershedkit_KeptActs.l0 (k + 1) (l.map s51) ((l ++ marks 12).map s51) i = watershedkit_KeptActs.l0 k (l.map s51) ((l ++ marks 12).map s51) ((i + 1 : Nat) : Int) := by
  have hlen : (l ++ marks 12).length = l.length + 12 := by rw [List.length_append, marks_len]
  have hw : wrap64 ((i : Int) + 1) = ((i + 1 : Nat) : Int) := by unfold wrap64; omega
  rw [watershedkit_KeptActs.l0, if_pos (by rw [List.length_map, hlen]; omega)]
  by_cases h : i < l.length
  · rw [if_pos (by simpa using h), if_pos (by omega), rd_at (by omega), rd_at h, lent_old h, if_pos (by simp), if_neg (by simp; omega), hw]
  · rw [if_neg (by simpa using h), if_pos (by simp; omega), if_pos (by omega), rd_at (by omega), lent_mark h hi]
    have hw2 : wrap64 ((i : Int) - ((l.map s51).length : Int)) = (i : Int) - (l.length : Int) := by rw [List.length_map]; unfold wrap64; omega
    rw [hw2]
    unfold watershedkit_markAct.f
    simp only [Option.bind_some]
    rw [if_pos (by simp [s51, markA]), hw]
theorem kept_from {l : List Act} (hl : l.length ≤ 900000) : ∀ d i, l.length + 12 - i = d → i ≤ l.length + 12 → watershedkit_KeptActs.l0 (d + 1) (l.map s51) ((l ++ marks 12).map s51) i = some true := by
  have hlen : (l ++ marks 12).length = l.length + 12 := by rw [List.length_append, marks_len]
  intro d
  induction d with
  | zero =>
    intro i hd hi
    rw [watershedkit_KeptActs.l0, if_neg (by rw [List.length_map, hlen]; omega)]
  | succ d ih =>
    intro i hd hi
    rw [kept_step hl (by omega)]
    exact ih (i + 1) (by omega) (by omega)
theorem kept_calls (l : List Act) (hl : l.length ≤ 900000) (base g cap : Nat) (v : Value) (w : World) (hown : w.ownsRow base 51 4 (.slice (some ⟨g, 0, none⟩) (l.length + 12) cap) (l.length + 12) (actCells (l ++ marks 12))) (h : ActsAt w.heap.size w v l) :
    Calls Tryz.prog 34 #[.slice (some ⟨g, 0, none⟩) l.length cap, v] w fun e w' => e = .returned (.bool true) ∧ Below w.heap.size w w' := by
  obtain ⟨A, c, rfl, hlc, _, hk⟩ := kd_of_acts h
  have hlen : (l ++ marks 12).length = l.length + 12 := by rw [List.length_append, marks_len]
  have hk0 := kd_of_at (acts_of_owns hown) (by omega)
  have hcap : l.length + 12 ≤ cap := by
    rcases hown.2 with ⟨h0, _⟩ | ⟨g', c', cur, hv, _, hg, h1, _⟩
    · cases h0
    · cases hv
      exact h1
  have := watershedkit_KeptActs.back (l.length + 12 + 1) (some ⟨g, 0, none⟩) cap ((l ++ marks 12).map s51) A c (l.map s51) true w hk0 (by rw [List.length_map, hlen]; exact hcap) hk hlc (by simp [marks_len]) (by simp; omega) (kept_from hl _ 0 (by omega) (by omega))
  rw [List.length_map] at this ⊢
  exact this
end Go.Proofs.YtahckodhnkloeaaGreatDoor

/- From lists of acts and of texts in memory to the print's words, and back. -/
import Derived.Test.YtahckodhnkloeaaGreatDoorLent
import Derived.Test.YtahckodhnkloeaaGreatDoorKeys
import Derived.Test.YtahckodhnkloeaaGreatDoorMarkP
namespace Go.Proofs.YtahckodhnkloeaaGreatDoor
open Go Go.RowKit Go.Proofs.YtahckodhnkloeaaGreatDoorW.PrintWords Go.Sort

theorem kd_add (b off q : Nat) : (⟨b, off, none⟩ : Addr).add q = ⟨b, off + q, none⟩ := by unfold Addr.add; split <;> simp_all
theorem kd_of_at {w : World} {b off : Nat} {L : List Act} (h : ∀ i (hi : i < L.length), ActAt w b (off + i * 4) L[i]) (hl : L.length ≤ 9223372036854775807) :
    Kd.C PAll.k51 w (some ⟨b, off, none⟩) (L.map s51).length (L.map s51) := by
  refine ⟨rfl, by simpa using hl, fun _ => ⟨_, rfl, fun j p hj => ?_⟩⟩
  rw [List.getElem?_map] at hj
  obtain ⟨a, ha, rfl⟩ := Option.map_eq_some_iff.1 hj
  obtain ⟨hjl, rfl⟩ := List.getElem?_eq_some_iff.1 ha
  have hat := h j hjl
  refine ⟨_, rfl, PAll.k51_mk w _, fun i u hu => ?_⟩
  show w.cell? ((⟨b, off, none⟩ : Addr).add (j * 4 + i)) = some u
  rw [kd_add]
  match i, hu with
  | 0, hu => cases hu; exact hat.c0
  | 1, hu => cases hu; exact hat.c1
  | 2, hu => cases hu; exact hat.c2
  | 3, hu => cases hu; exact hat.c3
theorem kd_of_acts {w : World} {v : Value} {L : List Act} (h : ActsAt w.heap.size w v L) : ∃ A c, v = .slice A (L.map s51).length c ∧ (L.map s51).length ≤ c ∧ c ≤ 9223372036854775807 ∧ Kd.C PAll.k51 w A (L.map s51).length (L.map s51) := by
  rcases h with ⟨a, rfl, rfl⟩ | ⟨b, off, cap, rfl, h1, h2, h3, h4⟩
  · exact ⟨a, 0, rfl, by simp, by simp, rfl, by simp, fun h => by simp at h⟩
  · exact ⟨_, cap, by simp, by simpa using h1, h2, kd_of_at h4 (by omega)⟩
theorem texts_of_kd {w : World} {base : Nat} {ok : Nat → Prop} {v : Value} {ks : List Txt} (h : Kd.R Kd.string 9 w base ok v (ks.map ba)) : OwnsTexts base w v ks := by
  obtain ⟨_, inner, ho, hr⟩ := h
  have e : inner = ks.map encStr := by
    apply List.ext_getElem?
    intro i
    have h1 : inner.length = ks.length * 1 := by have := hr.1; rw [List.length_map] at this; exact this
    rw [List.getElem?_map]
    by_cases hi : i < ks.length
    · have hp := hr.2 i (ba ks[i]) (by simp [hi])
      have hp' : (inner.drop (i * 1)).take 1 = [.string (ba ks[i])] := hp
      rw [Nat.mul_one, List.drop_eq_getElem_cons (by omega)] at hp'
      have hp2 : inner[i] = .string (ba ks[i]) := (List.cons.inj hp').1
      rw [List.getElem?_eq_getElem (by omega), hp2, List.getElem?_eq_getElem hi]; rfl
    · rw [List.getElem?_eq_none (by omega), List.getElem?_eq_none (by omega)]; rfl
  subst e
  unfold OwnsTexts
  rw [List.length_map] at ho
  exact ho
end Go.Proofs.YtahckodhnkloeaaGreatDoor

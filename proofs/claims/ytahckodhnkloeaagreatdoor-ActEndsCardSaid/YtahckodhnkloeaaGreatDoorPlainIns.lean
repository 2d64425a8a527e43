/- Plain lemmas: a key laid into a rising list of keys, at its place. No program in sight. -/
import Derived.Test.YtahckodhnkloeaaGreatDoorPlainKeys
namespace Go.Proofs.YtahckodhnkloeaaGreatDoor
open Go

/-- All ahead of place k are less than a key. -/
def LessTo (out : List Txt) (key : Txt) (k : Nat) : Prop := ∀ i (h : i < out.length), i < k → out[i] < key
theorem lessTo_zero (out : List Txt) (key : Txt) : LessTo out key 0 := fun _ _ h => by omega
theorem lessTo_succ {out : List Txt} {key : Txt} {k : Nat} (h : LessTo out key k) (hk : k < out.length) (hlt : out[k] < key) : LessTo out key (k + 1) := by
  intro i hi hik
  by_cases e : i = k
  · subst e; exact hlt
  · exact h i hi (by omega)
/-- A list that rises, and has the keys of some acts. -/
def RisesAs (out : List Txt) (ks : List Txt) : Prop := Rising out ∧ ∀ x, x ∈ out ↔ x ∈ ks
theorem rises_nil : RisesAs [] [] := ⟨List.Pairwise.nil, fun _ => Iff.rfl⟩
theorem rises_there {out ks : List Txt} {key : Txt} {k : Nat} (h : RisesAs out ks) (hk : k < out.length) (e : out[k] = key) : RisesAs out (ks ++ [key]) := by
  refine ⟨h.1, fun x => ?_⟩
  rw [List.mem_append, List.mem_singleton, ← h.2]
  constructor
  · exact Or.inl
  · rintro (hx | rfl)
    · exact hx
    · rw [← e]; exact List.getElem_mem hk
theorem rises_new {out ks : List Txt} {key : Txt} {k : Nat} (h : RisesAs out ks) (hk : k ≤ out.length) (hl : LessTo out key k) (hn : ∀ (hlt : k < out.length), ¬ out[k] < key ∧ out[k] ≠ key) :
    RisesAs (out.take k ++ key :: out.drop k) (ks ++ [key]) := by
  constructor
  · unfold Rising
    rw [List.pairwise_append]
    refine ⟨h.1.sublist (List.take_sublist _ _), ?_, ?_⟩
    · rw [List.pairwise_cons]
      refine ⟨fun y hy => ?_, h.1.sublist (List.drop_sublist _ _)⟩
      obtain ⟨j, hj, rfl⟩ := List.mem_drop_iff_getElem.1 hy
      obtain ⟨h1, h2⟩ := hn (by omega)
      have hle : key < out[k]'(by omega) := txt_lt_of_le_ne (List.not_lt.1 h1) (fun e => h2 e.symm)
      by_cases e : j = 0
      · subst e; simpa using hle
      · exact txt_trans hle (List.pairwise_iff_getElem.1 h.1 k (k + j) (by omega) (by omega) (by omega))
    · intro x hx y hy
      have hxk : x < key := by
        obtain ⟨i, hi, rfl⟩ := List.mem_take_iff_getElem.1 hx
        exact hl i (by omega) (by omega)
      rcases List.mem_cons.1 hy with rfl | hy
      · exact hxk
      · obtain ⟨j, hj, rfl⟩ := List.mem_drop_iff_getElem.1 hy
        obtain ⟨i, hi, rfl⟩ := List.mem_take_iff_getElem.1 hx
        exact List.pairwise_iff_getElem.1 h.1 i (k + j) (by omega) (by omega) (by omega)
  · intro x
    rw [List.mem_append, List.mem_append, List.mem_singleton, List.mem_cons, ← h.2]
    constructor
    · rintro (hx | rfl | hx)
      · exact Or.inl (List.mem_of_mem_take hx)
      · exact Or.inr rfl
      · exact Or.inl (List.mem_of_mem_drop hx)
    · rintro (hx | rfl)
      · rw [← List.take_append_drop k out] at hx
        rcases List.mem_append.1 hx with hx | hx
        · exact Or.inl hx
        · exact Or.inr (Or.inr hx)
      · exact Or.inr (Or.inl rfl)
theorem rises_end {out ks : List Txt} (h : RisesAs out ks) : out = keysOf ks := by
  obtain ⟨h1, h2⟩ := keysOf_spec ks
  exact rising_ext h.1 h1 fun x => by rw [h.2, h2]
theorem rises_len {out ks : List Txt} (h : RisesAs out ks) : out.length ≤ ks.length := by
  rw [rises_end h]; exact keysOf_len ks
end Go.Proofs.YtahckodhnkloeaaGreatDoor

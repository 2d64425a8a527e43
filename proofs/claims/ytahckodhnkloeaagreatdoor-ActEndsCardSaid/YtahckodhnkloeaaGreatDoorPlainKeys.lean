/- Plain lemmas on keys: sorted, each once. No program in sight. -/
import Derived.Lib.SlicesCompact
namespace Go.Proofs.YtahckodhnkloeaaGreatDoor
open Go

abbrev Txt := List UInt8
/-- Rising: each is less than all behind it. -/
def Rising (l : List Txt) : Prop := l.Pairwise (· < ·)
theorem txt_irrefl (a : Txt) : ¬ a < a := List.lt_irrefl a
theorem txt_trans {a b c : Txt} (h : a < b) (k : b < c) : a < c := List.lt_trans h k
theorem txt_total (a b : Txt) : a ≤ b ∨ b ≤ a := List.le_total a b
theorem txt_le_trans {a b c : Txt} (h : a ≤ b) (k : b ≤ c) : a ≤ c := List.le_trans h k
theorem txt_lt_of_le_ne {a b : Txt} (h : a ≤ b) (k : a ≠ b) : a < b := by
  rcases Classical.em (a < b) with h1 | h1
  · exact h1
  · exact absurd (List.le_antisymm h (List.not_lt.1 h1)) k
theorem txt_le_of_lt {a b : Txt} (h : a < b) : a ≤ b := List.le_of_lt h
/-- Two rising lists with the same members are one. -/
theorem rising_ext : ∀ {l m : List Txt}, Rising l → Rising m → (∀ x, x ∈ l ↔ x ∈ m) → l = m := by
  intro l
  induction l with
  | nil =>
    intro m _ _ h
    cases m with
    | nil => rfl
    | cons b r => exact absurd ((h b).2 (by simp)) (by simp)
  | cons a r ih =>
    intro m hl hm h
    cases m with
    | nil => exact absurd ((h a).1 (by simp)) (by simp)
    | cons b t =>
      obtain ⟨h1, h2⟩ := List.pairwise_cons.1 hl
      obtain ⟨g1, g2⟩ := List.pairwise_cons.1 hm
      have hab : a = b := by
        rcases List.mem_cons.1 ((h a).1 (by simp)) with e | e
        · exact e
        · rcases List.mem_cons.1 ((h b).2 (by simp)) with e' | e'
          · exact e'.symm
          · exact absurd (txt_trans (g1 a e) (h1 b e')) (txt_irrefl _)
      subst hab
      congr 1
      refine ih h2 g2 fun x => ⟨fun hx => ?_, fun hx => ?_⟩
      · rcases List.mem_cons.1 ((h x).1 (List.mem_cons_of_mem _ hx)) with e | e
        · subst e; exact absurd (h1 x hx) (txt_irrefl _)
        · exact e
      · rcases List.mem_cons.1 ((h x).2 (List.mem_cons_of_mem _ hx)) with e | e
        · subst e; exact absurd (g1 x hx) (txt_irrefl _)
        · exact e

/-- Of a row in order, what Compact keeps rises, and has the same members. -/
theorem compact_rising (zs : List Txt) (h : zs.Pairwise (· ≤ ·)) : Rising (Lib.compact zs) ∧ ∀ x, x ∈ Lib.compact zs ↔ x ∈ zs := by
  have key : ∀ m, m ≤ zs.length → Rising (Lib.compactUpTo zs.toArray m) ∧ (∀ x, x ∈ Lib.compactUpTo zs.toArray m ↔ x ∈ zs.take m) := by
    intro m
    induction m with
    | zero => intro _; exact ⟨by simp [Lib.compactUpTo, Rising], by simp [Lib.compactUpTo]⟩
    | succ m ih =>
      intro hm
      obtain ⟨h1, h2⟩ := ih (by omega)
      have hget : ∀ j, j < zs.length → zs.toArray[j]! = zs.getD j [] := fun j hj => by simp [hj]
      have e : zs.take (m + 1) = zs.take m ++ [zs.getD m []] := by
        rw [List.take_succ_eq_append_getElem (by omega)]; simp [show m < zs.length by omega]
      rw [Lib.compactUpTo_succ, e, hget m (by omega)]
      have hle : ∀ x ∈ zs.take m, x ≤ zs.getD m [] := by
        intro x hx
        obtain ⟨i, hi, rfl⟩ := List.mem_take_iff_getElem.1 hx
        have := List.pairwise_iff_getElem.1 h i m (by omega) (by omega) (by omega)
        simpa [show m < zs.length by omega] using this
      cases hk : Lib.keeps zs.toArray m with
      | true =>
        simp only [if_true]
        refine ⟨?_, fun x => by rw [List.mem_append, List.mem_append, h2]⟩
        unfold Rising
        rw [List.pairwise_append]
        refine ⟨h1, List.pairwise_singleton _ _, fun x hx y hy => ?_⟩
        simp only [List.mem_singleton] at hy
        subst hy
        have hx' := (h2 x).1 hx
        refine txt_lt_of_le_ne (hle x hx') fun e => ?_
        obtain ⟨i, hi, rfl⟩ := List.mem_take_iff_getElem.1 hx'
        have hm0 : 0 < m := by omega
        have hne : zs.getD m [] ≠ zs.getD (m - 1) [] := by
          unfold Lib.keeps at hk
          have := of_decide_eq_true hk
          rcases this with h0 | h0
          · omega
          · rwa [hget m (by omega), hget (m - 1) (by omega)] at h0
        have h3 : zs[i] ≤ zs.getD (m - 1) [] := by
          by_cases hi1 : i = m - 1
          · subst hi1; simp [show m - 1 < zs.length by omega]
          · have := List.pairwise_iff_getElem.1 h i (m - 1) (by omega) (by omega) (by omega)
            simpa [show m - 1 < zs.length by omega] using this
        have h4 : zs.getD (m - 1) [] ≤ zs.getD m [] := by
          have := List.pairwise_iff_getElem.1 h (m - 1) m (by omega) (by omega) (by omega)
          simpa [show m - 1 < zs.length by omega, show m < zs.length by omega] using this
        exact hne (List.le_antisymm (by rw [← e]; exact h3) h4)
      | false =>
        simp only [Bool.false_eq_true, if_false, List.append_nil]
        refine ⟨h1, fun x => ?_⟩
        rw [h2, List.mem_append, List.mem_singleton]
        refine ⟨Or.inl, fun hx => ?_⟩
        rcases hx with hx | rfl
        · exact hx
        · unfold Lib.keeps at hk
          have h0 := of_decide_eq_false hk
          have hm0 : m ≠ 0 := fun e => h0 (Or.inl e)
          have he : zs.toArray[m]! = zs.toArray[m - 1]! := by
            by_cases g : zs.toArray[m]! = zs.toArray[m - 1]!
            · exact g
            · exact absurd (Or.inr g) h0
          rw [hget m (by omega), hget (m - 1) (by omega)] at he
          rw [he]
          refine List.mem_take_iff_getElem.2 ⟨m - 1, by omega, ?_⟩
          simp [show m - 1 < zs.length by omega]
  have := key zs.length (Nat.le_refl _)
  rw [List.take_of_length_le (Nat.le_refl _)] at this
  exact this

/-- A transaction's keys: rising, each once. -/
def keysOf (ks : List Txt) : List Txt := Lib.compact (ks.mergeSort fun x y => decide (x ≤ y))
theorem keysOf_spec (ks : List Txt) : Rising (keysOf ks) ∧ ∀ x, x ∈ keysOf ks ↔ x ∈ ks := by
  have hs : (ks.mergeSort fun x y => decide (x ≤ y)).Pairwise (· ≤ ·) := by
    have := List.pairwise_mergeSort (le := fun (x y : Txt) => decide (x ≤ y)) (fun a b c h1 h2 => by simp only [decide_eq_true_eq] at *; exact txt_le_trans h1 h2) (fun a b => by simp only [Bool.or_eq_true, decide_eq_true_eq]; exact txt_total a b) ks
    exact this.imp (fun h => of_decide_eq_true h)
  obtain ⟨h1, h2⟩ := compact_rising _ hs
  exact ⟨h1, fun x => by unfold keysOf; rw [h2]; exact List.mem_mergeSort⟩
theorem keysOf_len (ks : List Txt) : (keysOf ks).length ≤ ks.length := by
  have h1 : ∀ (zs : List Txt), (Lib.compact zs).length ≤ zs.length := fun zs => by
    unfold Lib.compact Lib.compactUpTo
    rw [List.length_map]
    exact Nat.le_trans (List.length_filter_le _ _) (by simp)
  have := h1 (ks.mergeSort fun x y => decide (x ≤ y))
  rwa [List.length_mergeSort] at this
theorem keysOf_nil : keysOf [] = [] := List.length_eq_zero_iff.1 (Nat.le_zero.1 (keysOf_len []))
end Go.Proofs.YtahckodhnkloeaaGreatDoor

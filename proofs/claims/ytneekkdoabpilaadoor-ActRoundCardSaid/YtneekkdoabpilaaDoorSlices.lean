/- Slices of acts cut in two: what the two expressions give. -/
import Derived.Test.YtneekkdoabpilaaDoorKit
namespace Go.Proofs.YtneekkdoabpilaaDoor
open Go Go.RowKit

theorem sizeAct : Tryd.prog.cellsOf 43 = 4 := by kernel_rfl
theorem addr_add_zero (a : Addr) : a.add 0 = a := by unfold Addr.add; simp
theorem elemAct : Tryd.prog.underlying 26 = some (.slice (Tryd.prog.elem 26)) := by kernel_rfl
theorem sizeOfAct (W : World) : (sizeOf (Tryd.prog.elem 26)).run Tryd.prog W = .ok 4 W := by kernel_rfl
theorem cut_to {B : Nat} {w : World} {v : Value} {l : List Act} (h : ActsAt B w v l) (k : Nat) (hk : k ≤ l.length) :
    ∃ v1, (∀ W, (Instr.slice 26 v none (some (.int .i64 k)) none).run Tryd.prog W = .ok v1 W) ∧ ActsAt B w v1 (l.take k) := by
  rcases h with ⟨a, rfl, rfl⟩ | ⟨b, off, cap, rfl, h1, h2, h3, h4⟩
  · have : k = 0 := by simpa using hk
    subst this
    exact ⟨.slice a 0 0, fun W => by rw [run_slice_h W 26 _ _ _ elemAct .i64 _ (by omega) (by omega), sizeOfAct]; rfl, .inl ⟨a, rfl, rfl⟩⟩
  · refine ⟨.slice (some ⟨b, off, none⟩) k cap, fun W => ?_, .inr ⟨b, off, cap, by rw [List.length_take, Nat.min_eq_left hk], by rw [List.length_take]; omega, h2, h3, fun i hi => ?_⟩⟩
    · rw [run_slice_h W 26 _ _ _ elemAct .i64 k (by omega) (by omega), sizeOfAct]
      simp only [Result.andThen, sliced, Int.toNat_natCast, Nat.zero_mul, Nat.sub_zero, Option.map_some, addr_add_zero, ite_self]
    · rw [List.length_take] at hi
      have := h4 i (by omega)
      rwa [List.getElem_take]
theorem cut_from {B : Nat} {w : World} {v : Value} {l : List Act} (h : ActsAt B w v l) (k : Nat) (hk : k ≤ l.length) :
    ∃ v2, (∀ W, (Instr.slice 26 v (some (.int .i64 k)) none none).run Tryd.prog W = .ok v2 W) ∧ ActsAt B w v2 (l.drop k) := by
  rcases h with ⟨a, rfl, rfl⟩ | ⟨b, off, cap, rfl, h1, h2, h3, h4⟩
  · have : k = 0 := by simpa using hk
    subst this
    exact ⟨.slice a 0 0, fun W => by rw [run_slice_l W 26 _ _ _ elemAct .i64 _ (by omega) (by omega), sizeOfAct]; rfl, .inl ⟨a, rfl, rfl⟩⟩
  · by_cases hc : cap = k
    · refine ⟨.slice (some ⟨b, off, none⟩) (l.length - k) (cap - k), fun W => ?_, .inr ⟨b, off, cap - k, by rw [List.length_drop], by rw [List.length_drop]; omega, by omega, h3, fun i hi => ?_⟩⟩
      · rw [run_slice_l W 26 _ _ _ elemAct .i64 k (by omega) (by omega), sizeOfAct]
        simp only [Result.andThen, sliced, Int.toNat_natCast]
        rw [if_pos hc]
      · rw [List.length_drop] at hi; omega
    · refine ⟨.slice (some ⟨b, off + k * 4, none⟩) (l.length - k) (cap - k), fun W => ?_, .inr ⟨b, off + k * 4, cap - k, by rw [List.length_drop], by rw [List.length_drop]; omega, by omega, h3, fun i hi => ?_⟩⟩
      · rw [run_slice_l W 26 _ _ _ elemAct .i64 k (by omega) (by omega), sizeOfAct]
        simp only [Result.andThen, sliced, Int.toNat_natCast]
        rw [if_neg hc]
        simp only [Option.map_some, Addr.add]
        split
        · rename_i e; rw [e]; rfl
        · rfl
      · rw [List.length_drop] at hi
        have := h4 (k + i) (by omega)
        rw [List.getElem_drop]
        rw [show off + k * 4 + i * 4 = off + (k + i) * 4 by omega]
        exact this
end Go.Proofs.YtneekkdoabpilaaDoor

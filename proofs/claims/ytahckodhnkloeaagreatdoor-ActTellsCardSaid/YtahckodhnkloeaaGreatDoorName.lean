/- An argument that is a name, opened. -/
import Derived.Test.YtahckodhnkloeaaGreatDoorOpen
namespace Go.Proofs.YtahckodhnkloeaaGreatDoor
open Go Go.RowKit Go.ChangeShapes Go.WideShapes Go.Deep

theorem fieldsName : ∃ f0 f1 : Field, Tryz.prog.underlying 24 = some (.struct #[f0, f1]) ∧ f0.type = 3 ∧ f1.type = 3 ∧ f0.offset = 0 ∧ f1.offset = 1 :=
  ⟨_, _, Tryz.underlying24, rfl, rfl, rfl, rfl⟩
theorem cellsName : Tryz.prog.cellsOf 24 = 2 := by kernel_rfl
theorem list2 {α : Type} : ∀ {l : List α}, l.length = 2 → ∃ a b, l = [a, b]
  | [a, b], _ => ⟨a, b, rfl⟩
theorem agg_of_cells {v a b : Value} (h : v.cells.toList = [a, b]) : v = .agg #[a, b] := by
  cases v with
  | agg cs =>
    have : cs.toList = [a, b] := h
    obtain ⟨l⟩ := cs
    simp only at this
    subst this; rfl
  | _ => simp [Value.cells] at h
section
variable {H : Type} {enc : TypeId × Value → H} {w : World} {base : Nat} {sp : Nat → Bool} {held : Bool}
theorem open_name {v : Value} {d : DataW H} {p : List MemPlace} (h : DataW.Trod enc Tryz.prog w base sp held 24 v d p) :
    ∃ m n : Int, v = .agg #[.int .i64 m, .int .i64 n] := by
  obtain ⟨fuel, h⟩ := h
  obtain ⟨f0, f1, hu, t0, t1, o0, o1⟩ := fieldsName
  obtain ⟨xs, n, _, hx, hlen, hxl, hf⟩ := DataW.trod_struct hu h
  rw [cellsName] at hlen
  have h0 := hf 0 f0 rfl
  have h1 := hf 1 f1 rfl
  rw [t0, o0, cells1Int, take_one hlen (by omega)] at h0
  rw [t1, o1, cells1Int, take_one hlen (by omega)] at h1
  obtain ⟨a0, a1, e⟩ := list2 hlen
  obtain ⟨x0, x1, rfl⟩ := list2 hxl
  simp only [e, List.getElem_cons_zero, List.getElem_cons_succ, List.getElem?_cons_zero, List.getElem?_cons_succ] at h0 h1
  obtain ⟨k, e0, _, _⟩ := DataW.trod_int Tryz.underlying3 h0
  obtain ⟨k1, e1, _, _⟩ := DataW.trod_int Tryz.underlying3 h1
  simp only [List.cons.injEq, and_true] at e0 e1
  subst e0 e1
  exact ⟨k, k1, agg_of_cells e⟩
end
end Go.Proofs.YtahckodhnkloeaaGreatDoor

/- An argument that is a slice of acts, opened: what it holds in memory. -/
import Derived.Test.YtahckodhnkloeaaGreatDoorActs
import Derived.Test.YtahckodhnkloeaaGreatDoorEnv
import Derived.Deep.Slices
import Derived.Carry
namespace Go.Proofs.YtahckodhnkloeaaGreatDoor
open Go Go.RowKit Go.ChangeShapes Go.WideShapes Go.Deep

theorem laidOut : laidOutB Tryz.prog = true := by kernel_rfl
theorem cellsActs : Tryz.prog.cellsOf 51 = 4 := by kernel_rfl
theorem bytesAct : Tryz.prog.bytesOf 51 = 48 := by kernel_rfl
theorem fieldsAct : ∃ f0 f1 f2 f3 : Field, Tryz.prog.underlying 51 = some (.struct #[f0, f1, f2, f3]) ∧ f0.type = 49 ∧ f1.type = 9 ∧ f2.type = 9 ∧ f3.type = 3 ∧ f0.offset = 0 ∧ f1.offset = 1 ∧ f2.offset = 2 ∧ f3.offset = 3 :=
  ⟨_, _, _, _, Tryz.underlying51, rfl, rfl, rfl, rfl, rfl, rfl, rfl, rfl⟩
theorem cells1Kind : Tryz.prog.cellsOf 49 = 1 := by kernel_rfl
theorem cells1Str : Tryz.prog.cellsOf 9 = 1 := by kernel_rfl
theorem cells1Int : Tryz.prog.cellsOf 3 = 1 := by kernel_rfl

section
variable {H : Type} {enc : TypeId × Value → H} {w : World} {base : Nat} {sp : Nat → Bool} {held : Bool}
/-- An act as data. -/
def Act.data (a : Act) : DataW H := .agg [.lit (.int .u8 a.kind), .lit (.string a.key), .lit (.string a.value), .lit (.int .i64 a.num)]
theorem wf_u8 {k : Int} (h : (Lit.int .u8 k).wf = true) : 0 ≤ k ∧ k < 256 := by
  simp [Lit.wf, IntKind.min, IntKind.max, IntKind.signed, IntKind.bits] at h; omega
theorem wf_i64 {k : Int} (h : (Lit.int .i64 k).wf = true) : -9223372036854775808 ≤ k ∧ k ≤ 9223372036854775807 := by
  simpa [Lit.wf, IntKind.min, IntKind.max, IntKind.signed, IntKind.bits] using h
theorem list4 {α : Type} : ∀ {l : List α}, l.length = 4 → ∃ a b c d, l = [a, b, c, d]
  | [a, b, c, d], _ => ⟨a, b, c, d, rfl⟩
theorem add_addr (b off q : Nat) : (⟨b, off, none⟩ : Addr).add q = ⟨b, off + q, none⟩ := by unfold Addr.add; split <;> simp_all
theorem take_one {l : List Value} {n i : Nat} (h : l.length = n) (hi : i < n) : (l.drop i).take 1 = [l[i]'(by omega)] := by
  rw [List.drop_eq_getElem_cons (by omega)]; rfl
theorem open_act {fuel : Nat} {cs : List Value} {d : DataW H} {p : List MemPlace} (h : DataW.trod enc Tryz.prog w base sp held fuel 51 cs = some (d, p)) :
    ∃ a : Act, cs = [.int .u8 a.kind, S a.key, S a.value, .int .i64 a.num] ∧ d = a.data ∧ (Lit.int .u8 a.kind).wf = true ∧ (Lit.int .i64 a.num).wf = true := by
  obtain ⟨f0, f1, f2, f3, hu, t0, t1, t2, t3, o0, o1, o2, o3⟩ := fieldsAct
  obtain ⟨xs, n, _, hx, hlen, hxl, hf⟩ := DataW.trod_struct hu h
  rw [cellsActs] at hlen
  have h0 := hf 0 f0 rfl
  have h1 := hf 1 f1 rfl
  have h2 := hf 2 f2 rfl
  have h3 := hf 3 f3 rfl
  rw [t0, o0, cells1Kind, take_one hlen (by omega)] at h0
  rw [t1, o1, cells1Str, take_one hlen (by omega)] at h1
  rw [t2, o2, cells1Str, take_one hlen (by omega)] at h2
  rw [t3, o3, cells1Int, take_one hlen (by omega)] at h3
  obtain ⟨a0, a1, a2, a3, rfl⟩ := list4 hlen
  obtain ⟨x0, x1, x2, x3, rfl⟩ := list4 hxl
  · simp only [List.getElem_cons_zero, List.getElem_cons_succ, List.getElem?_cons_zero, List.getElem?_cons_succ] at h0 h1 h2 h3
    obtain ⟨k, e0, y0, w0⟩ := DataW.trod_int Tryz.underlying49 h0
    obtain ⟨s1, e1, y1, _⟩ := DataW.trod_string Tryz.underlying9 h1
    obtain ⟨s2, e2, y2, _⟩ := DataW.trod_string Tryz.underlying9 h2
    obtain ⟨n3, e3, y3, w3⟩ := DataW.trod_int Tryz.underlying3 h3
    simp only [List.cons.injEq, and_true] at e0 e1 e2 e3
    subst e0 e1 e2 e3 y0 y1 y2 y3
    simp only [Prod.mk.injEq] at hx
    exact ⟨⟨k, s1.data.toList, s2.data.toList, n3⟩, rfl, by rw [hx.1]; rfl, w0, w3⟩

theorem weights_all {P : Program} {e : TypeId} {d : DataW H} : ∀ {l : List (DataW H)}, d ∈ l → ∀ n ∈ d.weights P e, n ∈ DataW.weightsAll P e l
  | x :: r, h, n, hn => by
    simp only [DataW.weightsAll, List.mem_append]
    rcases List.mem_cons.1 h with rfl | h
    · exact Or.inl hn
    · exact Or.inr (weights_all h n hn)

theorem open_acts {fuel : Nat} {v : Value} {d : DataW H} {p : List MemPlace} {ts : List TypeId} {ds : List (DataW H)} {j : Nat} (h : DataW.trod enc Tryz.prog w 0 (fun _ => true) held fuel 22 v.cells.toList = some (d, p))
    (hv : ∃ a l c, v = .slice a l c) (hsz : (DataW.weightsEach Tryz.prog ts ds).all (· ≤ reachBytes) = true) (ht : ts[j]? = some 22) (hd : ds[j]? = some d) :
    ∃ l : List Act, ActsAt w.heap.size w v l ∧ (∀ a ∈ l, a.Ok) ∧ l.length ≤ 140737488351232 := by
  obtain ⟨a0, l0, c0, rfl⟩ := hv
  rcases open_slice Tryz.underlying22 h with ⟨h1, _⟩ | ⟨a, len, cap, m, n, D, Pl, hcs, _, hl, hm, hmm, hx, hi⟩
  · simp [Value.cells] at h1
    obtain ⟨rfl, rfl, rfl⟩ := h1
    exact ⟨[], .inl ⟨none, rfl, rfl⟩, by simp, by simp⟩
  · simp only [Value.cells, List.cons.injEq, and_true, Value.slice.injEq] at hcs
    obtain ⟨rfl, rfl, rfl⟩ := hcs
    have hmc : m = c0 := by rw [hmm]; simp
    subst hmc
    have hD : ∀ i, i < m → ∃ b : Act, (∀ q, q < 4 → w.cell? (a.add (i * 4 + q)) = ([.int .u8 b.kind, S b.key, S b.value, .int .i64 b.num] : List Value)[q]?) ∧ D i = b.data ∧ (Lit.int .u8 b.kind).wf = true ∧ (Lit.int .i64 b.num).wf = true := by
      intro i him
      obtain ⟨cs', hc, ht'⟩ := hi i him
      rw [cellsActs] at hc
      obtain ⟨_, _, hat⟩ := World.cells?_some hc
      obtain ⟨b, rfl, hb, hr⟩ := open_act ht'
      exact ⟨b, fun q hq => by rw [← Go.Deep.add_add]; exact hat q hq, hb, hr⟩
    let f : Nat → Act := fun i => if h : i < m then (hD i h).choose else ⟨0, [], [], 0⟩
    have hf : ∀ i (h : i < m), (∀ q, q < 4 → w.cell? (a.add (i * 4 + q)) = ([.int .u8 (f i).kind, S (f i).key, S (f i).value, .int .i64 (f i).num] : List Value)[q]?) ∧ D i = (f i).data ∧ (Lit.int .u8 (f i).kind).wf = true ∧ (Lit.int .i64 (f i).num).wf = true := by
      intro i h
      have e : f i = (hD i h).choose := by simp only [f]; rw [dif_pos h]
      rw [e]
      exact (hD i h).choose_spec
    simp only [Prod.mk.injEq] at hx
    obtain ⟨rfl, _⟩ := hx
    have hw := sized_slice hsz ht hd Tryz.underlying22
    rw [bytesAct] at hw
    have hr : reachBytes = 140737488351232 := rfl
    simp only [List.length_map, List.length_range] at hw
    have hwt : ∀ i, i < l0 → (f i).key.length ≤ 140737488351232 ∧ (f i).value.length ≤ 140737488351232 := by
      intro i hi0
      have hmem : (f i).data ∈ (List.range l0).map D := List.mem_map.2 ⟨i, by simpa using hi0, (hf i (by omega)).2.1⟩
      have hall : ∀ q ∈ (f i).data.weights Tryz.prog 51, q ≤ reachBytes := fun q hq =>
        of_decide_eq_true (List.all_eq_true.1 hsz _ (DataW.weights_mem_each ht hd q (by
          simp only [DataW.weights, Tryz.underlying22, List.mem_cons, List.mem_append]
          exact Or.inr (Or.inl (weights_all hmem q hq)))))
      obtain ⟨f0, f1, f2, f3, hu, _⟩ := fieldsAct
      have e : (f i).data.weights (H := H) Tryz.prog 51 = [(f i).key.length, (f i).value.length] := by simp [Act.data, DataW.weights, hu, DataW.weightsEach]
      rw [e] at hall
      exact ⟨hall _ (by simp), hall _ (by simp)⟩
    refine ⟨(List.range l0).map f, ?_, fun b hb => ?_, by simp only [List.length_map, List.length_range]; omega⟩
    · rcases Nat.eq_zero_or_pos m with hz | hpos
      · have : l0 = 0 := by omega
        subst this hz
        exact .inl ⟨some a, rfl, rfl⟩
      · have h0 := (hf 0 hpos).1 0 (by omega)
        have hspot : a.spot = none := by
          cases hsp : a.spot with
          | none => rfl
          | some x =>
            exfalso
            have : (a.add (0 * 4 + 0)) = a := by unfold Addr.add; simp
            rw [this] at h0
            simp [World.cell?, hsp] at h0
            split at h0 <;> simp at h0
        obtain ⟨b, off, sp0⟩ := a
        simp only at hspot
        subst hspot
        have hadd := add_addr b off
        refine .inr ⟨b, off, m, by simp, by simpa using hl, by omega, ?_, fun i hi0 => ?_⟩
        · rw [hadd] at h0
          have := World.block_lt_of_cell? w _ h0
          exact this
        · simp only [List.length_map, List.length_range] at hi0
          have hh := (hf i (by omega)).1
          simp only [List.getElem_map, List.getElem_range]
          have g0 := hh 0 (by omega)
          have g1 := hh 1 (by omega)
          have g2 := hh 2 (by omega)
          have g3 := hh 3 (by omega)
          rw [hadd] at g0 g1 g2 g3
          exact ⟨by simpa using g0, by simpa [Nat.add_assoc] using g1, by simpa [Nat.add_assoc] using g2, by simpa [Nat.add_assoc] using g3⟩
    · obtain ⟨i, hi0, rfl⟩ := List.mem_map.1 hb
      have hi1 : i < l0 := by simpa using hi0
      obtain ⟨_, _, w0, w1⟩ := hf i (by omega)
      obtain ⟨k0, k1⟩ := wf_u8 w0
      obtain ⟨n0, n1⟩ := wf_i64 w1
      exact ⟨k0, k1, (hwt i hi1).1, (hwt i hi1).2, n0, n1⟩
end
end Go.Proofs.YtahckodhnkloeaaGreatDoor

/- Walk: (*told).read: a reading is laid behind the others; what a place's block holds. -/
import Derived.Test.YtahckodhnkloeaaGreatDoorActs
namespace Go.Proofs.YtahckodhnkloeaaGreatDoor
open Go Go.RowKit

/-- What was read: its key, whether anything stood there, and what. -/
structure Rd where
  key : List UInt8
  is : Bool
  value : List UInt8
def Rd.cells (r : Rd) : List Value := [S r.key, .bool r.is, S r.value]
def rdCells (l : List Rd) : List Value := l.flatMap Rd.cells
theorem rdCells_len (l : List Rd) : (rdCells l).length = l.length * 3 := by
  induction l with
  | nil => rfl
  | cons a r ih => show (a.cells ++ rdCells r).length = _; rw [List.length_append, ih]; simp [Rd.cells]; omega
theorem rdCells_snoc (l : List Rd) (r : Rd) : rdCells (l ++ [r]) = rdCells l ++ r.cells := by simp [rdCells]

/-- The block of a place. -/
def PlaceAt (w : World) (B : Nat) (v : Value) (is put : Bool) (value : List UInt8) : Prop := w.heap[B]? = some (.cells #[v, .bool is, .bool put, S value] 122 (0, 0))
section
variable {w : World} {B : Nat} {v : Value} {is put : Bool} {value : List UInt8}
theorem PlaceAt.cell (h : PlaceAt w B v is put value) : w.cell? ⟨B, 0, none⟩ = some v ∧ w.cell? ⟨B, 1, none⟩ = some (.bool is) ∧ w.cell? ⟨B, 2, none⟩ = some (.bool put) ∧ w.cell? ⟨B, 3, none⟩ = some (S value) := by
  unfold PlaceAt at h
  simp [World.cell?, h]
theorem PlaceAt.frozen (h : PlaceAt w B v is put value) (o : Nat) : w.frozen? ⟨B, o, none⟩ = false := by
  unfold PlaceAt at h
  simp [World.frozen?, h]
theorem PlaceAt.lt (h : PlaceAt w B v is put value) : B < w.heap.size := (Array.getElem?_eq_some_iff.1 h).1
theorem PlaceAt.set0 (h : PlaceAt w B v is put value) (x : Value) : PlaceAt (w.setCell ⟨B, 0, none⟩ x) B x is put value := by
  unfold PlaceAt at *
  simp [World.setCell, Array.getElem?_modify, h]
theorem PlaceAt.set1 (h : PlaceAt w B v is put value) (x : Bool) : PlaceAt (w.setCell ⟨B, 1, none⟩ (.bool x)) B v x put value := by
  unfold PlaceAt at *
  simp [World.setCell, Array.getElem?_modify, h]
theorem PlaceAt.set2 (h : PlaceAt w B v is put value) (x : Bool) : PlaceAt (w.setCell ⟨B, 2, none⟩ (.bool x)) B v is x value := by
  unfold PlaceAt at *
  simp [World.setCell, Array.getElem?_modify, h]
theorem PlaceAt.set3 (h : PlaceAt w B v is put value) (x : List UInt8) : PlaceAt (w.setCell ⟨B, 3, none⟩ (S x)) B v is put x := by
  unfold PlaceAt at *
  simp [World.setCell, Array.getElem?_modify, h]
theorem PlaceAt.block {w' : World} (h : PlaceAt w B v is put value) (hb : w'.heap[B]? = w.heap[B]?) : PlaceAt w' B v is put value := by
  unfold PlaceAt at *
  rw [hb, h]
end

/-- Below block 'base' nothing has turned but block B. -/
structure Turns (base B : Nat) (w w' : World) : Prop where
  os : w'.os = w.os
  tape : w'.tape = w.tape
  output : w'.output = w.output
  size : w.heap.size ≤ w'.heap.size
  block : ∀ k, k < base → k ≠ B → w'.heap[k]? = w.heap[k]?
theorem Turns.refl (base B : Nat) (w : World) : Turns base B w w := ⟨rfl, rfl, rfl, Nat.le_refl _, fun _ _ _ => rfl⟩
theorem Turns.trans {base B : Nat} {a b c : World} (h : Turns base B a b) (k : Turns base B b c) : Turns base B a c :=
  ⟨k.os.trans h.os, k.tape.trans h.tape, k.output.trans h.output, Nat.le_trans h.size k.size, fun i hi hn => (k.block i hi hn).trans (h.block i hi hn)⟩
theorem Turns.below {base B C : Nat} {w w' : World} (h : Turns base B w w') (hC : C ≤ B) (hB : B < base) : Below C w w' := ⟨h.os, h.tape, h.output, h.size, fun k hk => h.block k (by omega) (by omega)⟩
theorem Turns.ofBelow {base B : Nat} {w w' : World} (h : Below base w w') : Turns base B w w' := ⟨h.os, h.tape, h.output, h.size, fun k hk _ => h.block k hk⟩
theorem Turns.set {base B : Nat} {w w' : World} (h : Turns base B w w') (o : Nat) (x : Value) : Turns base B w (w'.setCell ⟨B, o, none⟩ x) :=
  ⟨h.os, h.tape, h.output, by simpa [World.setCell] using h.size, fun k hk hn => (Below.heap_setCell _ _ _ _ hn).trans (h.block k hk hn)⟩
theorem Turns.drew {base B : Nat} {w w' : World} (h : Turns base B w w') : Turns base B w w'.drew := ⟨h.os, h.tape, h.output, h.size, h.block⟩

/-- What the place has behind the call: its reads, its state. -/
def Stands (base B : Nat) (row : Option Nat) (rs : List Rd) (is put : Bool) (value : List UInt8) (w : World) (e : Ending) (w' : World) : Prop :=
  e = .returned (.tuple #[]) ∧ ∃ v, PlaceAt w' B v is put value ∧ w'.ownsRow base 95 3 v rs.length (rdCells rs) ∧ Turns base B w w' ∧ ∀ k, k < w.heap.size → k ≠ B → some k ≠ row → w'.heap[k]? = w.heap[k]?

/-- The same, without what lies beside. -/
def Stood (base B : Nat) (rs : List Rd) (is put : Bool) (value : List UInt8) (w : World) (e : Ending) (w' : World) : Prop :=
  e = .returned (.tuple #[]) ∧ ∃ v, PlaceAt w' B v is put value ∧ w'.ownsRow base 95 3 v rs.length (rdCells rs) ∧ Turns base B w w'
theorem Stands.stood {base B : Nat} {row : Option Nat} {rs : List Rd} {is put : Bool} {value : List UInt8} {w w' : World} {e : Ending} (h : Stands base B row rs is put value w e w') : Stood base B rs is put value w e w' := by
  obtain ⟨h1, v, h2, h3, h4, _⟩ := h
  exact ⟨h1, v, h2, h3, h4⟩
theorem Turns.grown {base B : Nat} {w w' : World} {v : Value} {o : Obj} {e : TypeId} {size n : Nat} {xs : List Value} (hbase : base ≤ w.heap.size) (hown : w.ownsRow base e size v n xs) (hg : (w.alloc o).grownBy w' v.ownBlock) : Turns base B w w' :=
  .ofBelow (((Below.refl base w).alloc hbase o).grown hg (by simp; omega) (fun k hk => (hown.lt k hk).1))
theorem infoRead : (Tryz.prog.info? 95).map (fun i => (i.zero, i.size, i.bytes)) = some (some (.agg #[.string ⟨#[]⟩, .bool false, .string ⟨#[]⟩]), 3, 40) := by kernel_rfl

theorem read_calls (base B : Nat) (v : Value) (rs : List Rd) (is put : Bool) (value key : List UInt8) (ris : Bool) (rval : List UInt8) (w : World)
    (hp : PlaceAt w B v is put value) (hB : B < base) (hbase : base ≤ w.heap.size) (hown : w.ownsRow base 95 3 v rs.length (rdCells rs)) (hn : rs.length ≤ 1000000) :
    Calls Tryz.prog 123 #[.pointer (some ⟨B, 0, none⟩), S key, .bool ris, S rval] w (Stands base B v.ownBlock (rs ++ [⟨key, ris, rval⟩]) is put value w) := by
  obtain ⟨i0, hi, hz0, hz1, hz2⟩ := info_parts infoRead
  obtain ⟨c0, c1, c2, c3⟩ := hp.cell
  have f0 := hp.frozen 0
  have Hp := Lib.hid hp; clear hp
  clear c1 c2 c3
  have hcl := rdCells_len rs
  unfold S
  go_enter Tryz.func123, Tryz.ntmps123
  go_wp2_with (first
    | (at_builtin; refine wpList_append_own _ rfl _ _ 28 rfl base 95 i0 (.agg #[.string ⟨#[]⟩, .bool false, .string ⟨#[]⟩]) 3 40 Tryz.underlying28 hi hz0 hz1 hz2 rfl (by decide) _ _ _ rfl (hown.alloc _) ⟨w.heap.size, 0, none⟩ 1 1 [.string ⟨key.toArray⟩, .bool ris, .string ⟨rval.toArray⟩] rfl rfl ?c1 ?c2 ?c3 ?c4 ?c5 ?_))
  case c1 =>
    intro j u hj
    match j, hj with
    | 0, hj => simp at hj; subst hj; simp [Addr.add]
    | 1, hj => simp at hj; subst hj; simp [Addr.add]
    | 2, hj => simp at hj; subst hj; simp [Addr.add]
  case c2 => intro u hu; simp at hu; rcases hu with rfl | rfl | rfl <;> rfl
  case c3 => unfold maxLen; omega
  case c4 => omega
  case c5 => simp; omega
  · intro v' w1 hown1 hgrow _
    have ht := Turns.grown (B := B) hbase hown hgrow
    have hp1 : PlaceAt w1 B v is put value := Hp.out.block (by
      have h1 := hgrow.block B (by simp; have := Hp.out.lt; omega) (fun e => by have := (hown.lt B e.symm).1; omega)
      rw [h1]; exact Below.heap_alloc _ _ _ Hp.out.lt)
    have c0' := hp1.cell.1
    have f0' := hp1.frozen 0
    have Hown := Lib.hid (ownsRow_setCell_below (a := ⟨B, 0, none⟩) hown1 hB v')
    have Hp1 := Lib.hid (hp1.set0 v')
    have Ht := Lib.hid (ht.set 0 v')
    have Hfar := Lib.hid (show ∀ k, k < w.heap.size → k ≠ B → some k ≠ v.ownBlock → (w1.setCell ⟨B, 0, none⟩ v').heap[k]? = w.heap[k]? from fun k hk hkB hkr => by
      rw [Below.heap_setCell _ _ _ _ hkB, hgrow.block k (by simp; omega) hkr]; exact Below.heap_alloc _ _ _ hk)
    clear hown1 hgrow hp1 ht hown c0 f0 Hp
    have hv : ∃ a l c, v' = .slice a l c := by
      rcases Hown.out.2 with ⟨h, _⟩ | ⟨_, _, _, h, _⟩
      · exact ⟨_, _, _, h⟩
      · exact ⟨_, _, _, h⟩
    obtain ⟨a, l, c, rfl⟩ := hv
    go_wp2_with fail
    go_end0
    exact ⟨rfl, _, Hp1.out, by rw [rdCells_snoc, List.length_append]; exact Hown.out, Ht.out, Hfar.out⟩
end Go.Proofs.YtahckodhnkloeaaGreatDoor

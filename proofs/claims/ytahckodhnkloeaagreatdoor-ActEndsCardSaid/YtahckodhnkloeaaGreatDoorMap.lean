/- Laws on maps whose keys are integers, keyed by what a map's block holds: an entry that is new, a look-up. No program in sight. -/
import Derived.ProofKit
import Derived.WalkKit
namespace Go.Proofs.YtahckodhnkloeaaGreatDoor
open Go Go.RowKit
open Go.ChangeMaps (setBlock)
section
variable {P : Program}

/-- A key that no entry has is laid behind the others. -/
theorem run_insert_int {w : World} {mty kt et : TypeId} {kd : IntKind} {r clock : Nat} {es : Array MapEntry} (hm : P.underlying mty = some (.map kt et)) (hk : P.underlying kt = some (.int kd))
    (hb : w.heap[r]? = some (.map es clock)) (k : Int) (val : Value) (hno : Instr.findNow (.int kd) (.int kd k) es.toList 0 = some none) :
    (Instr.mapUpdate mty (.map (some r)) (.int kd k) val).run P w = .ok () (setBlock w r (.map (es.push { key := .int kd k, val := val, born := clock }) (clock + 1))) := by
  have hc : (Instr.checkKey false 10000 kt (.int kd k)).run P w = .ok () w := MapKept.run_checkKey (k := .int kd k) hk (by simp [MapKept.IsKey]) false 9999
  simp [Instr.mapUpdate, run_underlying hm, MapKept.run_getObj_map hb, hc, MapKept.run_findKey hk hno, MapKept.run_setObj_map _ hb, Result.andThen, setBlock]

/-- Is a key none of the entries'? -/
def fresh (kd : IntKind) (k : Int) (l : List MapEntry) : Bool := l.all fun e => match e.key with | .int kd' j => decide (kd' = kd) && !(k == j) | _ => false
theorem fresh_nil (kd : IntKind) (k : Int) : fresh kd k [] = true := rfl
theorem fresh_cons (kd : IntKind) (k j : Int) (v : Value) (c : Nat) (l : List MapEntry) : fresh kd k ({ key := .int kd j, val := v, born := c } :: l) = (!(k == j) && fresh kd k l) := by simp [fresh]
theorem findNow_fresh {kd : IntKind} {k : Int} : ∀ {l : List MapEntry} (n : Nat), fresh kd k l = true → Instr.findNow (.int kd) (.int kd k) l n = some none := by
  intro l
  induction l with
  | nil => intro n _; rfl
  | cons e r ih =>
    intro n h
    obtain ⟨ky, v, c⟩ := e
    simp only [fresh, List.all_cons, Bool.and_eq_true] at h
    cases ky with
    | int kd' j =>
      simp only [Bool.and_eq_true, decide_eq_true_eq, Bool.not_eq_true'] at h
      obtain ⟨⟨rfl, h1⟩, h2⟩ := h
      simp only [Instr.findNow, Instr.sameNow, if_true, h1]
      exact ih _ h2
    | _ => simp at h
/-- A new key, where the map is the newest block, behind a draw. -/
theorem run_insert_last {w : World} {mty kt et : TypeId} {kd : IntKind} (hm : P.underlying mty = some (.map kt et)) (hk : P.underlying kt = some (.int kd)) (l : List MapEntry) (c : Nat) (k : Int) (v : Value) (h : fresh kd k l = true) :
    (Instr.mapUpdate mty (.map (some w.heap.size)) (.int kd k) v).run P (w.alloc (.map l.toArray c)).drew = .ok () (w.alloc (.map (l ++ [({ key := .int kd k, val := v, born := c } : MapEntry)]).toArray (c + 1))).drew := by
  rw [run_insert_int (w := (w.alloc (.map l.toArray c)).drew) (es := l.toArray) (clock := c) hm hk (heap_alloc_new w _) k v (findNow_fresh 0 h)]
  congr 1
  simp only [setBlock, World.drew, World.alloc]
  congr 1
  apply Array.ext_getElem?
  intro i
  rw [Array.getElem?_setIfInBounds, Array.getElem?_push, Array.getElem?_push]
  split
  · rename_i e; subst e; simp
  · rename_i e
    rw [if_neg (fun h => e h.symm), if_neg (fun h => e h.symm)]

/-- The same without a draw. -/
theorem run_insert_lastN {w : World} {N : Nat} (hN : N = w.heap.size) {mty kt et : TypeId} {kd : IntKind} (hm : P.underlying mty = some (.map kt et)) (hk : P.underlying kt = some (.int kd)) (l : List MapEntry) (c : Nat) (k : Int) (v : Value) (h : fresh kd k l = true) :
    (Instr.mapUpdate mty (.map (some N)) (.int kd k) v).run P (w.alloc (.map l.toArray c)) = .ok () (w.alloc (.map (l ++ [({ key := .int kd k, val := v, born := c } : MapEntry)]).toArray (c + 1))) := by
  subst hN
  rw [run_insert_int (w := w.alloc (.map l.toArray c)) (es := l.toArray) (clock := c) hm hk (heap_alloc_new w _) k v (findNow_fresh 0 h)]
  congr 1
  simp only [setBlock, World.alloc]
  congr 1
  apply Array.ext_getElem?
  intro i
  rw [Array.getElem?_setIfInBounds, Array.getElem?_push, Array.getElem?_push]
  split
  · rename_i e; subst e; simp
  · rename_i e
    rw [if_neg (fun h => e h.symm), if_neg (fun h => e h.symm)]

/-- What stands at a key, or the zero value. -/
theorem run_look_int {w : World} {mty kt et : TypeId} {kd : IntKind} {r clock : Nat} {es : Array MapEntry} (hm : P.underlying mty = some (.map kt et)) (hk : P.underlying kt = some (.int kd))
    (hb : w.heap[r]? = some (.map es clock)) (k : Int) {i : Nat} {v : Value} (hyes : Instr.findNow (.int kd) (.int kd k) es.toList 0 = some (some (i, v))) :
    (Instr.lookup mty (.map (some r)) (.int kd k) false).run P w = .ok v w ∧ (Instr.lookup mty (.map (some r)) (.int kd k) true).run P w = .ok (.tuple #[v, .bool true]) w := by
  have hc : ∀ e, (Instr.checkKey e 10000 kt (.int kd k)).run P w = .ok () w := fun e => MapKept.run_checkKey (k := .int kd k) hk (by simp [MapKept.IsKey]) e 9999
  constructor <;> simp [Instr.lookup, run_underlying hm, MapKept.run_getObj_map hb, hc, MapKept.run_findKey hk hyes, Result.andThen]
theorem run_look_int_none {w : World} {mty kt et : TypeId} {kd : IntKind} {r clock : Nat} {es : Array MapEntry} (hm : P.underlying mty = some (.map kt et)) (hk : P.underlying kt = some (.int kd))
    (hb : w.heap[r]? = some (.map es clock)) (k : Int) (z : Value) (hz : (zeroValue et).run P w = .ok z w) (hno : Instr.findNow (.int kd) (.int kd k) es.toList 0 = some none) :
    (Instr.lookup mty (.map (some r)) (.int kd k) false).run P w = .ok z w ∧ (Instr.lookup mty (.map (some r)) (.int kd k) true).run P w = .ok (.tuple #[z, .bool false]) w := by
  have hc : ∀ e, (Instr.checkKey e 10000 kt (.int kd k)).run P w = .ok () w := fun e => MapKept.run_checkKey (k := .int kd k) hk (by simp [MapKept.IsKey]) e 9999
  constructor <;> simp [Instr.lookup, run_underlying hm, MapKept.run_getObj_map hb, hc, MapKept.run_findKey hk hno, hz, Result.andThen]
end

/-- Three entries under the keys 1, 2, 3, in whatever order they were laid: what is found. -/
def three (k : Int) (a b c : Value) : Option Value := if k = 1 then some a else if k = 2 then some b else if k = 3 then some c else none
def Three (es : Array MapEntry) (kd : IntKind) (a b c : Value) : Prop := ∀ k : Int, ∃ o, Instr.findNow (.int kd) (.int kd k) es.toList 0 = some o ∧ o.map (·.2) = three k a b c
theorem three_mk (kd : IntKind) (a b c : Value) (i j l : Int) (x y z : Value) (n m o : Nat)
    (h : (i = 1 ∧ x = a ∧ ((j = 2 ∧ y = b ∧ l = 3 ∧ z = c) ∨ (j = 3 ∧ y = c ∧ l = 2 ∧ z = b))) ∨ (i = 2 ∧ x = b ∧ ((j = 1 ∧ y = a ∧ l = 3 ∧ z = c) ∨ (j = 3 ∧ y = c ∧ l = 1 ∧ z = a))) ∨ (i = 3 ∧ x = c ∧ ((j = 1 ∧ y = a ∧ l = 2 ∧ z = b) ∨ (j = 2 ∧ y = b ∧ l = 1 ∧ z = a)))) :
    Three #[{ key := .int kd i, val := x, born := n }, { key := .int kd j, val := y, born := m }, { key := .int kd l, val := z, born := o }] kd a b c := by
  intro k
  simp only [three, Instr.findNow, Instr.sameNow, if_true]
  rcases h with ⟨rfl, rfl, ⟨rfl, rfl, rfl, rfl⟩ | ⟨rfl, rfl, rfl, rfl⟩⟩ | ⟨rfl, rfl, ⟨rfl, rfl, rfl, rfl⟩ | ⟨rfl, rfl, rfl, rfl⟩⟩ | ⟨rfl, rfl, ⟨rfl, rfl, rfl, rfl⟩ | ⟨rfl, rfl, rfl, rfl⟩⟩
  all_goals
    by_cases h1 : k = 1
    · subst h1; simp
    · by_cases h2 : k = 2
      · subst h2; simp
      · by_cases h3 : k = 3
        · subst h3; simp
        · have e1 : (k == 1) = false := by simpa using h1
          have e2 : (k == 2) = false := by simpa using h2
          have e3 : (k == 3) = false := by simpa using h3
          simp [h1, h2, h3, e1, e2, e3]
/-- A map's block holds three entries under the keys 1, 2, 3. -/
def Holds3 (w : World) (N : Nat) (kd : IntKind) (a b c : Value) : Prop := ∃ es clock, w.heap[N]? = some (.map es clock) ∧ Three es kd a b c
theorem Holds3.keeps {w w' : World} {N : Nat} {kd : IntKind} {a b c : Value} (h : Holds3 w N kd a b c) (hb : Below w.heap.size w w') : Holds3 w' N kd a b c := by
  obtain ⟨es, cl, h1, h2⟩ := h
  exact ⟨es, cl, by rw [hb.block N (Array.getElem?_eq_some_iff.1 h1).1]; exact h1, h2⟩
theorem Holds3.look {P : Program} {w : World} {N : Nat} {kd : IntKind} {a b c : Value} (h : Holds3 w N kd a b c) {mty kt et : TypeId} (hm : P.underlying mty = some (.map kt et)) (hk : P.underlying kt = some (.int kd)) (z : Value) (hz : (zeroValue et).run P w = .ok z w) (k : Int) :
    (Instr.lookup mty (.map (some N)) (.int kd k) false).run P w = .ok ((three k a b c).getD z) w ∧ (Instr.lookup mty (.map (some N)) (.int kd k) true).run P w = .ok (.tuple #[(three k a b c).getD z, .bool (three k a b c).isSome]) w := by
  obtain ⟨es, cl, h1, h2⟩ := h
  obtain ⟨o, h3, h4⟩ := h2 k
  rw [← h4]
  cases o with
  | none => exact run_look_int_none hm hk h1 k z hz h3
  | some p => exact run_look_int hm hk h1 k h3
end Go.Proofs.YtahckodhnkloeaaGreatDoor

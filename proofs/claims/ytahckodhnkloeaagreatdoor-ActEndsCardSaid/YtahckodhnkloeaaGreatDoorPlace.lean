/- Walks: the place's methods get, puts, add: what an act does. -/
import Derived.Test.YtahckodhnkloeaaGreatDoorRead
import Derived.Deep.RegionHeld3
import Derived.BigRegion
import Derived.StillTailTactics
import Derived.Deep.DeepCutAuto
namespace Go.Proofs.YtahckodhnkloeaaGreatDoor
open Go Go.RowKit

theorem cell_block {w w' : World} {b o : Nat} {x : Value} (hb : w'.heap[b]? = w.heap[b]?) (h : w.cell? ⟨b, o, none⟩ = some x) : w'.cell? ⟨b, o, none⟩ = some x := (World.cell?_of_block (w := w) (a := ⟨b, o, none⟩) hb).trans h

theorem Stands.of_alloc {base B : Nat} {v : Value} {rs : List Rd} {is put : Bool} {value : List UInt8} {w w' : World} {e : Ending} {o : Obj} (hbase : base ≤ w.heap.size) (h : Stands base B v.ownBlock rs is put value (w.alloc o).drew e w') : Stands base B v.ownBlock rs is put value w e w' := by
  obtain ⟨h1, v', h2, h3, h4, h5⟩ := h
  exact ⟨h1, v', h2, h3, (Turns.ofBelow ((Below.refl base w).alloc hbase o)).trans (b := (w.alloc o)) ⟨h4.os, h4.tape, h4.output, h4.size, h4.block⟩, fun k hk hB hr => (h5 k (by simp; omega) hB hr).trans (Below.heap_alloc w o k hk)⟩
theorem get_keeps {base B : Nat} {v : Value} {rs : List Rd} {is put : Bool} {value key val : List UInt8} {k n : Int} {w w' : World} (hrow : some w.heap.size ≠ v.ownBlock) (hlt : B < w.heap.size)
    (h : ∃ v', PlaceAt w' B v' is put value ∧ w'.ownsRow base 95 3 v' rs.length (rdCells rs) ∧ Turns base B (w.alloc (.cells #[.int .u8 k, S key, S val, .int .i64 n] 51)).drew w' ∧ ∀ j, j < (w.alloc (.cells #[.int .u8 k, S key, S val, .int .i64 n] 51)).drew.heap.size → j ≠ B → some j ≠ v.ownBlock → w'.heap[j]? = (w.alloc (.cells #[.int .u8 k, S key, S val, .int .i64 n] 51)).drew.heap[j]?) :
    w'.cell? ⟨w.heap.size, 1, none⟩ = some (.string ⟨key.toArray⟩) ∧ w'.cell? ⟨B, 1, none⟩ = some (.bool is) ∧ w'.cell? ⟨B, 3, none⟩ = some (.string ⟨value.toArray⟩) := by
  obtain ⟨v', h2, h3, h4, h5⟩ := h
  exact ⟨cell_block (h5 _ (by simp) (by omega) hrow) (by simp [S]), h2.cell.2.1, h2.cell.2.2.2⟩

set_option maxRecDepth 100000 in
set_option maxHeartbeats 2000000 in
theorem get_calls (base B : Nat) (v : Value) (rs : List Rd) (is put : Bool) (value : List UInt8) (a : Act) (w : World)
    (hp : PlaceAt w B v is put value) (hB : B < base) (hbase : base ≤ w.heap.size) (hown : w.ownsRow base 95 3 v rs.length (rdCells rs)) (hn : rs.length ≤ 1000000) :
    Calls Tryz.prog 69 #[.pointer (some ⟨B, 0, none⟩), .agg #[.int .u8 a.kind, S a.key, S a.value, .int .i64 a.num]] w (Stands base B v.ownBlock (rs ++ [⟨a.key, is, value⟩]) is put value w) := by
  obtain ⟨k, key, val, n⟩ := a
  obtain ⟨c0, c1, c2, c3⟩ := hp.cell
  have hlt := hp.lt
  have hrow : some w.heap.size ≠ v.ownBlock := fun e => by have := (hown.lt _ e.symm).2; omega
  have Hc := Lib.hid (read_calls base B v rs is put value key is value ((w.alloc (.cells #[.int .u8 k, S key, S val, .int .i64 n] 51)).drew)
    (hp.block (Below.heap_alloc _ _ _ hlt)) hB (by simp; omega) (hown.alloc _) hn)
  have Hto := Lib.hid (fun (e : Ending) (w' : World) => Stands.of_alloc (B := B) (v := v) (rs := rs ++ [⟨key, is, value⟩]) (is := is) (put := put) (value := value) (e := e) (w' := w') (o := .cells #[.int .u8 k, S key, S val, .int .i64 n] 51) hbase)
  have Hrow := Lib.hid hrow
  clear hp hown c0 c2 hrow
  unfold S at *
  go_enter Tryz.func69, Tryz.ntmps69
  go_wp2_with fail
  go_region_held3 (fun w' => w'.cell? ⟨w.heap.size, 1, none⟩ = some (.string ⟨key.toArray⟩) ∧ w'.cell? ⟨B, 1, none⟩ = some (.bool is) ∧ w'.cell? ⟨B, 3, none⟩ = some (.string ⟨value.toArray⟩))
    (first | go_keep | exact Hk.out)
    (first | (go_at_call 123; refine Hc.out.mono ?_; rintro e w' ⟨rfl, hs⟩; have Hk := Lib.hid (get_keeps Hrow.out hlt hs); have Hs := Lib.hid hs; clear hs))
  go_end0
  exact Hto.out _ _ ⟨rfl, Hs.out⟩

theorem puts_stands {base B : Nat} {v : Value} {rs : List Rd} {is put : Bool} {value val : List UInt8} {w : World} {o : Obj} (hB : B < base) (hbase : base ≤ w.heap.size) (hp : PlaceAt w B v is put value) (hown : w.ownsRow base 95 3 v rs.length (rdCells rs)) :
    Stands base B v.ownBlock rs true true val w (.returned (.tuple #[])) ((((w.setCell ⟨B, 1, none⟩ (.bool true)).setCell ⟨B, 2, none⟩ (.bool true)).setCell ⟨B, 3, none⟩ (.string ⟨val.toArray⟩)).alloc o).drew := by
  have hp3 := ((hp.set1 true).set2 true).set3 val
  have hs : (((w.setCell ⟨B, 1, none⟩ (.bool true)).setCell ⟨B, 2, none⟩ (.bool true)).setCell ⟨B, 3, none⟩ (S val)).heap.size = w.heap.size := by simp [World.setCell]
  exact ⟨rfl, v, hp3.block (Below.heap_alloc _ _ _ hp3.lt),
    (ownsRow_setCell_below (a := ⟨B, 3, none⟩) (ownsRow_setCell_below (a := ⟨B, 2, none⟩) (ownsRow_setCell_below (a := ⟨B, 1, none⟩) hown hB _) hB _) hB _).alloc o,
    ((((Turns.refl base B w).set 1 _).set 2 _).set 3 _).trans (Turns.ofBelow (((Below.refl _ _).alloc (by rw [← hs] at hbase; exact hbase) o).drew)),
    fun k hk hkB _ => by
      refine (Below.heap_alloc _ o k (by rw [← hs] at hk; exact hk)).trans ?_
      rw [Below.heap_setCell _ _ _ _ hkB, Below.heap_setCell _ _ _ _ hkB, Below.heap_setCell _ _ _ _ hkB]⟩

set_option maxRecDepth 100000 in
set_option maxHeartbeats 2000000 in
theorem puts_calls (base B : Nat) (v : Value) (rs : List Rd) (is put : Bool) (value : List UInt8) (a : Act) (w : World)
    (hp : PlaceAt w B v is put value) (hB : B < base) (hbase : base ≤ w.heap.size) (hown : w.ownsRow base 95 3 v rs.length (rdCells rs)) :
    Calls Tryz.prog 70 #[.pointer (some ⟨B, 0, none⟩), .agg #[.int .u8 a.kind, S a.key, S a.value, .int .i64 a.num]] w (Stands base B v.ownBlock rs true true a.value w) := by
  obtain ⟨k, key, val, n⟩ := a
  obtain ⟨c0, c1, c2, c3⟩ := hp.cell
  have f1 := hp.frozen 1
  have f2 := hp.frozen 2
  have f3 := hp.frozen 3
  have hlt := hp.lt
  have Hp := Lib.hid hp; clear hp c0
  have Hown := Lib.hid hown; clear hown
  unfold S at *
  go_enter Tryz.func70, Tryz.ntmps70
  go_wp2_with fail
  go_region
  go_end0
  exact puts_stands hB hbase Hp.out Hown.out

/-- What an add leaves. -/
def addV (value : List UInt8) (n : Int) : List UInt8 := Lib.itoa (cutN (numOf value + max (min n 4294967296) (-4294967296)))
theorem addV_len (value : List UInt8) (n : Int) : (addV value n).length ≤ 11 := itoa_len _ (cutN_lo _) (cutN_hi _)

theorem add_keeps {w1 w2 : World} {B N : Nat} {x y : Value} (hB : B < w1.heap.size) (hN : N < w1.heap.size) (h3 : w1.cell? ⟨N, 3, none⟩ = some x) (e3 : w1.cell? ⟨B, 3, none⟩ = some y) (hb : Below w1.drew.heap.size w1.drew w2) :
    w2.cell? ⟨N, 3, none⟩ = some x ∧ w2.cell? ⟨B, 3, none⟩ = some y :=
  ⟨(hb.cell (p := ⟨N, 3, none⟩) hN).trans h3, (hb.cell (p := ⟨B, 3, none⟩) hB).trans e3⟩

theorem add_store {w1 w3 : World} {N : Nat} {c0 c1 c2 c3 : Value} {t : TypeId} (hb : Below w1.drew.heap.size w1.drew w3) (hN : N < w1.heap.size) (h : w1.heap[N]? = some (.cells #[c0, c1, c2, c3] t (0, 0))) :
    w3.cell? ⟨N, 2, none⟩ = some c2 ∧ w3.frozen? ⟨N, 2, none⟩ = false := by
  have h3 : w3.heap[N]? = some (.cells #[c0, c1, c2, c3] t (0, 0)) := (hb.block N hN).trans h
  exact ⟨by simp [World.cell?, h3], by simp [World.frozen?, h3]⟩

theorem keep_set {w : World} {B N : Nat} {x y z : Value} (hk : w.cell? ⟨N, 3, none⟩ = some x ∧ w.cell? ⟨B, 3, none⟩ = some y) : (w.setCell ⟨N, 2, none⟩ z).cell? ⟨N, 3, none⟩ = some x ∧ (w.setCell ⟨N, 2, none⟩ z).cell? ⟨B, 3, none⟩ = some y :=
  ⟨(World.cell?_setCell_other w _ _ z (by simp)).trans hk.1, (World.cell?_setCell_other w _ _ z (by simp)).trans hk.2⟩
theorem undrew {w w' : World} (h : Below w.drew.heap.size w.drew w') : Below w.heap.size w w' := ⟨h.os, h.tape, h.output, h.size, h.block⟩
theorem addV_wrap (value : List UInt8) (n : Int) : addV value n = Lib.itoa (cutN (IntKind.i64.wrap (numOf value + max (min n 4294967296) (-4294967296)))) := by
  have lo := numOf_lo value
  have hi := numOf_hi value
  unfold addV
  rw [IntWalk.i64_in _ (by omega)]
theorem add_after {w1 w2 : World} {N : Nat} {c0 c1 c2 c3 x : Value} {t : TypeId} (hb : Below w1.heap.size w1 w2) (hN : N < w1.heap.size) (h : w1.heap[N]? = some (.cells #[c0, c1, c2, c3] t (0, 0))) :
    (w2.setCell ⟨N, 2, none⟩ x).heap[N]? = some (.cells #[c0, c1, x, c3] t (0, 0)) ∧ (w2.setCell ⟨N, 2, none⟩ x).cell? ⟨N, 0, none⟩ = some c0 ∧ (w2.setCell ⟨N, 2, none⟩ x).cell? ⟨N, 1, none⟩ = some c1 ∧ (w2.setCell ⟨N, 2, none⟩ x).cell? ⟨N, 2, none⟩ = some x ∧ (w2.setCell ⟨N, 2, none⟩ x).cell? ⟨N, 3, none⟩ = some c3 := by
  have h2 : w2.heap[N]? = some (.cells #[c0, c1, c2, c3] t (0, 0)) := (hb.block N hN).trans h
  have h3 : (w2.setCell ⟨N, 2, none⟩ x).heap[N]? = some (.cells #[c0, c1, x, c3] t (0, 0)) := by simp [World.setCell, Array.getElem?_modify, h2]
  exact ⟨h3, by simp [World.cell?, h3], by simp [World.cell?, h3], by simp [World.cell?, h3], by simp [World.cell?, h3]⟩
/-- Behind the text is laid into the act's box, what the put leaves. -/
theorem add_stands {base B : Nat} {v1 : Value} {rs : List Rd} {is put : Bool} {value val key : List UInt8} {k n : Int} {w w1 w2 : World} {x : Value} {cs : Array Value} (hB : B < base) (hbase : base ≤ w.heap.size)
    (hp : PlaceAt w1 B v1 is put value) (hown : w1.ownsRow base 95 3 v1 rs.length (rdCells rs)) (ht : Turns base B w w1)
    (hN : w1.heap[w.heap.size]? = some (.cells cs 51 (0, 0))) (hb : Below w1.heap.size w1 w2) :
    Calls Tryz.prog 70 #[.pointer (some ⟨B, 0, none⟩), .agg #[.int .u8 k, .string ⟨key.toArray⟩, .string ⟨val.toArray⟩, .int .i64 n]] (w2.setCell ⟨w.heap.size, 2, none⟩ x) (Stood base B rs true true val w) := by
  have hlt := hp.lt
  have hBlt : B < w.heap.size := by omega
  have hsz : w.heap.size < w1.heap.size := (Array.getElem?_eq_some_iff.1 hN).1
  have hset : ∀ j, j ≠ w.heap.size → (w2.setCell ⟨w.heap.size, 2, none⟩ x).heap[j]? = w2.heap[j]? := fun j hj => Below.heap_setCell _ _ _ _ hj
  have hs2 : (w2.setCell ⟨w.heap.size, 2, none⟩ x).heap.size = w2.heap.size := by simp [World.setCell]
  have hbs := hb.size
  have hp2 : PlaceAt (w2.setCell ⟨w.heap.size, 2, none⟩ x) B v1 is put value := hp.block ((hset B (by omega)).trans (hb.block B hlt))
  have hne : ∀ g, v1.ownBlock = some g → g ≠ w.heap.size := by
    intro g hg e
    rcases hown.2 with ⟨rfl, _⟩ | ⟨g', cap, cur, rfl, _, hgg, _⟩
    · simp [Value.ownBlock] at hg
    · simp [Value.ownBlock] at hg
      subst hg e
      rw [hN] at hgg
      simp at hgg
  have hown2 : (w2.setCell ⟨w.heap.size, 2, none⟩ x).ownsRow base 95 3 v1 rs.length (rdCells rs) := by
    refine ⟨hown.1, ?_⟩
    rcases hown.2 with h | ⟨g, cap, cur, rfl, h1, h2, h3⟩
    · exact .inl h
    · refine .inr ⟨g, cap, cur, rfl, h1, ?_, h3⟩
      rw [hset g (hne g rfl), hb.block g (Array.getElem?_eq_some_iff.1 h2).1]
      exact h2
  have hc := puts_calls base B v1 rs is put value ⟨k, key, val, n⟩ (w2.setCell ⟨w.heap.size, 2, none⟩ x) hp2 hB (by omega) hown2
  refine hc.mono ?_
  rintro e w' ⟨rfl, v', h1, h2, h3, _⟩
  have ht2 : Turns base B w w' := ht.trans ⟨h3.os.trans hb.os, h3.tape.trans hb.tape, h3.output.trans hb.output, by have := h3.size; omega, fun j hj hjB => by
    rw [h3.block j hj hjB, hset j (by omega), hb.block j (by omega)]⟩
  exact ⟨rfl, v', h1, h2, ht2⟩

set_option maxRecDepth 100000 in
set_option maxHeartbeats 2000000 in
theorem add_calls (base B : Nat) (v : Value) (rs : List Rd) (is put : Bool) (value : List UInt8) (a : Act) (w : World) (hBE : ∀ w', Turns base B w w' → Env w')
    (hp : PlaceAt w B v is put value) (hB : B < base) (hbase : base ≤ w.heap.size) (hown : w.ownsRow base 95 3 v rs.length (rdCells rs)) (hn : rs.length ≤ 1000000) (hvl : value.length ≤ 140737488351232) :
    Calls Tryz.prog 71 #[.pointer (some ⟨B, 0, none⟩), .agg #[.int .u8 a.kind, S a.key, S a.value, .int .i64 a.num]] w (Stood base B (rs ++ [⟨a.key, is, value⟩]) true true (addV value a.num) w) := by
  have Hg := Lib.hid (get_calls base B v rs is put value a (w.alloc (.cells #[.int .u8 a.kind, S a.key, S a.value, .int .i64 a.num] 51)) (hp.block (Below.heap_alloc _ _ _ hp.lt)) hB (by simp; omega) (hown.alloc _) hn)
  obtain ⟨k, key, val, n⟩ := a
  have hlt := hp.lt
  have hrow : some w.heap.size ≠ v.ownBlock := fun e => by have := (hown.lt _ e.symm).2; omega
  have HE := Lib.hid hBE; clear hBE hp
  have Hown := Lib.hid hown; clear hown
  go_enter Tryz.func71, Tryz.ntmps71
  unfold S
  go_wp2_with fail
  refine Hg.out.mono ?_
  rintro e w1 ⟨rfl, v1, hp1, hown1, ht1, hfar1⟩
  have hN : w1.heap[w.heap.size]? = some (.cells #[.int .u8 k, .string ⟨key.toArray⟩, .string ⟨val.toArray⟩, .int .i64 n] 51 (0, 0)) := (hfar1 w.heap.size (by simp) (by omega) hrow).trans (heap_alloc_new _ _)
  have hsz1 : w.heap.size + 1 ≤ w1.heap.size := by have := ht1.size; simpa using this
  have ht2 : Turns base B w w1 := (Turns.ofBelow ((Below.refl base w).alloc hbase _)).trans ht1
  have d0 : w1.cell? ⟨w.heap.size, 0, none⟩ = some (.int .u8 k) := by simp [World.cell?, hN]
  have d1 : w1.cell? ⟨w.heap.size, 1, none⟩ = some (.string ⟨key.toArray⟩) := by simp [World.cell?, hN]
  have d2 : w1.cell? ⟨w.heap.size, 2, none⟩ = some (.string ⟨val.toArray⟩) := by simp [World.cell?, hN]
  have d3 : w1.cell? ⟨w.heap.size, 3, none⟩ = some (.int .i64 n) := by simp [World.cell?, hN]
  have e3 : w1.cell? ⟨B, 3, none⟩ = some (.string ⟨value.toArray⟩) := hp1.cell.2.2.2
  have HE1 := Lib.hid (HE.out w1.drew ht2.drew)
  have lo := numOf_lo value
  have hi := numOf_hi value
  have hlt1 := hp1.lt
  have HN := Lib.hid hN
  clear hN
  have Hp1 := Lib.hid hp1; clear hp1
  have Hown1 := Lib.hid hown1; clear hown1
  have Hfar1 := Lib.hid hfar1; clear hfar1
  have Ht2 := Lib.hid ht2; clear ht1 ht2 Hg
  have Hrow := Lib.hid hrow; clear hrow
  go_upto_region 2 with fail
  go_cut [] (fun wx => ∃ w2 : World, Below w1.heap.size w1 w2 ∧ wx = (w2.setCell ⟨w.heap.size, 2, none⟩ (.string ⟨(addV value n).toArray⟩)))
  case first =>
    go_region_held3 (fun w' => w'.cell? ⟨w.heap.size, 3, none⟩ = some (.int .i64 n) ∧ w'.cell? ⟨B, 3, none⟩ = some (.string ⟨value.toArray⟩))
      (first | go_keep | exact Hk.out | exact keep_set Hk.out)
      (first
        | (go_at_call 32; refine (number_calls ⟨value.toArray⟩ hvl w1.drew HE1.out).mono ?_; rintro e w2 ⟨rfl, hb⟩; have Hk := Lib.hid (add_keeps (B := B) (N := w.heap.size) (x := .int .i64 n) (y := .string ⟨value.toArray⟩) hlt1 (by omega) d3 e3 hb); have Hb2 := Lib.hid hb; clear hb)
        | (go_at_call 83; refine (value_calls _ _ (HE1.out.keeps Hb2.out)).mono ?_; rintro e w3 ⟨rfl, hb⟩; have Hk := Lib.hid (add_keeps (B := B) (N := w.heap.size) (x := .int .i64 n) (y := .string ⟨value.toArray⟩) hlt1 (by omega) d3 e3 (up_trans Hb2.out hb)); have hst := add_store (up_trans Hb2.out hb) (by omega) HN.out; obtain ⟨d2', f2'⟩ := hst; have Hb3 := Lib.hid hb; clear hb; unfold S))
    all_goals (go_wp2_with fail; go_meet; exact ⟨w3, undrew (up_trans Hb2.out Hb3.out), by rw [addV_wrap]⟩)
  case rest =>
    obtain ⟨w2, hb2, rfl⟩ := hcut
    obtain ⟨h3, h4⟩ := add_after (x := .string ⟨(addV value n).toArray⟩) hb2 (by omega) HN.out
    obtain ⟨g0, g1, g2, g3⟩ := h4
    have Hst := Lib.hid (add_stands (x := .string ⟨(addV value n).toArray⟩) (rs := rs ++ [⟨key, is, value⟩]) (val := addV value n) (k := k) (n := n) (key := key) hB hbase Hp1.out Hown1.out Ht2.out HN.out hb2)
    clear d0 d1 d2 d3 e3 h3
    go_wp2_with fail
    refine Hst.out.mono ?_
    rintro e w3 ⟨rfl, h⟩
    have Hh := Lib.hid h; clear h
    go_wp2_with fail
    go_end0
    exact ⟨rfl, Hh.out⟩
end Go.Proofs.YtahckodhnkloeaaGreatDoor

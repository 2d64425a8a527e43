/- Acts in memory; walks: act.Right and what it calls of the library. -/
import Derived.Test.YtahckodhnkloeaaGreatDoorRight
namespace Go.Proofs.YtahckodhnkloeaaGreatDoor
open Go Go.RowKit

/-- The four cells of an act. -/
structure ActAt (w : World) (b o : Nat) (a : Act) : Prop where
  c0 : w.cell? ⟨b, o, none⟩ = some (.int .u8 a.kind)
  c1 : w.cell? ⟨b, o + 1, none⟩ = some (S a.key)
  c2 : w.cell? ⟨b, o + 2, none⟩ = some (S a.value)
  c3 : w.cell? ⟨b, o + 3, none⟩ = some (.int .i64 a.num)
theorem ActAt.keeps {w w' : World} {B b o : Nat} {a : Act} (h : ActAt w b o a) (hb : Below B w w') (hlt : b < B) : ActAt w' b o a :=
  ⟨(hb.cell (p := ⟨b, o, none⟩) hlt).trans h.c0, (hb.cell (p := ⟨b, o + 1, none⟩) hlt).trans h.c1, (hb.cell (p := ⟨b, o + 2, none⟩) hlt).trans h.c2, (hb.cell (p := ⟨b, o + 3, none⟩) hlt).trans h.c3⟩
/-- A slice of acts, below block B. -/
def ActsAt (B : Nat) (w : World) (v : Value) (l : List Act) : Prop :=
  (∃ a, v = .slice a 0 0 ∧ l = []) ∨ ∃ b off cap, v = .slice (some ⟨b, off, none⟩) l.length cap ∧ l.length ≤ cap ∧ cap ≤ 9223372036854775807 ∧ b < B ∧ ∀ i (h : i < l.length), ActAt w b (off + i * 4) l[i]
theorem ActsAt.keeps {w w' : World} {B : Nat} {v : Value} {l : List Act} (h : ActsAt B w v l) (hb : Below B w w') : ActsAt B w' v l := by
  rcases h with h | ⟨b, off, cap, h1, h2, h3, h4, h5⟩
  · exact .inl h
  · exact .inr ⟨b, off, cap, h1, h2, h3, h4, fun i hi => (h5 i hi).keeps hb h4⟩
theorem ActsAt.mono {w : World} {B B' : Nat} {v : Value} {l : List Act} (h : ActsAt B w v l) (hB : B ≤ B') : ActsAt B' w v l := by
  rcases h with h | ⟨b, off, cap, h1, h2, h3, h4, h5⟩
  · exact .inl h
  · exact .inr ⟨b, off, cap, h1, h2, h3, by omega, h5⟩

theorem rightFn_calls (a : Act) (ha : a.Ok) (w : World) : Calls Tryz.prog 74 #[.agg #[.int .u8 a.kind, S a.key, S a.value, .int .i64 a.num]] w fun e w' => e = .returned (.bool (!actB a)) ∧ Below w.heap.size w w' := by
  have H := Lib.hid ha; clear ha
  obtain ⟨k, key, value, n⟩ := a
  have hr := right_calls ⟨k, key, value, n⟩ H.out
  generalize actB ⟨k, key, value, n⟩ = c at *
  have Hr := Lib.hid hr; clear hr
  go_enter Tryz.func74, Tryz.ntmps74
  go_wp2_with fail
  refine (Hr.out _).mono ?_
  rintro e w1 ⟨rfl, hb⟩
  have Hb := Lib.hid hb; clear hb
  go_wp2_with fail
  go_ret
  exact ⟨rfl, up_alloc Hb.out⟩

theorem all_next {l : List Act} {k : Nat} (h : k < l.length) (ha : Hid ((l.take k).all actB = true)) (hb : actB l[k] = true) : Hid ((l.take (k + 1)).all actB = true) := by
  have ha := ha.out
  unfold Hid
  rw [List.take_succ_eq_append_getElem h, List.all_append, ha]; simp [hb]
theorem all_stop {l : List Act} {k : Nat} (h : k < l.length) (hb : actB l[k] = false) : l.all actB = false := by
  rw [List.all_eq_false]
  exact ⟨l[k], by simp, by simpa using hb⟩
theorem all_end {l : List Act} (h : Hid ((l.take l.length).all actB = true)) : l.all actB = true := by
  have h := h.out
  rwa [List.take_of_length_le (Nat.le_refl _)] at h
/-- Are a transaction's acts right? -/
def actsB (l : List Act) : Bool := decide (1 ≤ l.length) && decide (l.length ≤ 6) && l.all actB
def Found (l : List Act) (w : World) (e : Ending) (w' : World) : Prop := ∃ r : Int, e = .returned (.int .i64 r) ∧ decide (r ≥ 0) = !(l.all actB) ∧ Below w.heap.size w w'

theorem index_calls (l : List Act) (hl : l.length ≤ 140737488351232) (hok : ∀ a ∈ l, a.Ok) (v : Value) (w : World) (h : ActsAt w.heap.size w v l) :
    Calls Tryz.prog 124 #[v, .func (.func 74) #[] #[]] w (Found l w) := by
  rcases h with ⟨a, rfl, rfl⟩ | ⟨b, off, cap, rfl, hlc, hcap, hbB, hc⟩
  · go_enter Tryz.func124, Tryz.ntmps124
    go_wp2_with fail
    go_rounds 1
    go_ret
    exact ⟨-1, rfl, by simp, Below.refl _ _⟩
  · have Hc := Lib.hid hc; clear hc
    have Hok := Lib.hid hok; clear hok
    go_enter Tryz.func124, Tryz.ntmps124
    go_wp2_with fail
    go_loopw [8] (fun i wr => ∃ k : Nat, k ≤ l.length ∧ i = .int .i64 k ∧ Hid ((l.take k).all actB = true) ∧ Hid (Below w.heap.size w wr)) (fun i _ => l.length - (intOf i).toNat)
    case atStart => exact ⟨0, Nat.zero_le _, rfl, by simp [Hid], Below.refl _ _⟩
    case round =>
      obtain ⟨k, hk, rfl, hall, hb⟩ := hrel
      by_cases hlt : k < l.length
      · have hact := (Hc.out k hlt).keeps hb.out hbB
        have c0 := hact.c0
        have c1 := hact.c1
        have c2 := hact.c2
        have c3 := hact.c3
        clear hact
        have hr := Lib.hid (rightFn_calls l[k] (Hok.out _ (List.getElem_mem hlt)) wr)
        have hn := Lib.hid (all_next hlt hall)
        have hf := Lib.hid (all_stop hlt)
        generalize l[k] = a at *
        unfold S at c1 c2
        go_wp2_with fail
        refine hr.out.mono ?_
        rintro e w1 ⟨rfl, hb1⟩
        have Hb1 := Lib.hid hb1; clear hb1
        cases hab : actB a
        · replace hf := Lib.hid (hf.out hab)
          clear hab hn hr
          go_wp2_with fail
          go_ret
          exact ⟨k, rfl, by rw [hf.out]; simp, up_trans hb.out Hb1.out⟩
        · replace hn := Lib.hid (hn.out hab)
          clear hab hf hr
          go_wp2_with fail
          exact ⟨⟨k + 1, by omega, by go_num, hn.out, up_trans hb.out Hb1.out⟩, by simp [intOf]; omega⟩
      · obtain rfl : k = l.length := by omega
        have hn := Lib.hid (all_end hall)
        go_wp2_with fail
        go_ret
        exact ⟨-1, rfl, by rw [hn.out]; simp, hb.out⟩

theorem contains_calls (l : List Act) (hl : l.length ≤ 140737488351232) (hok : ∀ a ∈ l, a.Ok) (v : Value) (w : World) (h : ActsAt w.heap.size w v l) :
    Calls Tryz.prog 73 #[v, .func (.func 74) #[] #[]] w fun e w' => e = .returned (.bool (!l.all actB)) ∧ Below w.heap.size w w' := by
  have hi := Lib.hid (index_calls l hl hok v w h)
  clear h hok
  go_enter Tryz.func73, Tryz.ntmps73
  go_wp2_with fail
  refine hi.out.mono ?_
  rintro e w1 ⟨r, rfl, h1, hb⟩
  have H1 := Lib.hid h1; clear h1
  go_wp2_with fail
  go_ret
  exact ⟨ret_bool H1.out, hb⟩

theorem actsRight_calls (l : List Act) (hl : l.length ≤ 140737488351232) (hok : ∀ a ∈ l, a.Ok) (v : Value) (w : World) (h : ActsAt w.heap.size w v l) :
    Calls Tryz.prog 19 #[v] w fun e w' => e = .returned (.bool (actsB l)) ∧ Below w.heap.size w w' := by
  have hc := Lib.hid (contains_calls l hl hok v w h)
  have hv : ∃ a cap, v = .slice a l.length cap := by
    rcases h with ⟨_, rfl, rfl⟩ | ⟨b, off, cap, rfl, _⟩
    · exact ⟨_, _, rfl⟩
    · exact ⟨_, _, rfl⟩
  clear h hok
  obtain ⟨a, cap, rfl⟩ := hv
  unfold actsB
  generalize l.all actB = c at *
  generalize l.length = n at *
  by_cases h1 : 1 ≤ n
  · by_cases h6 : n ≤ 6
    · go_enter Tryz.func19, Tryz.ntmps19
      go_wp2_with fail
      refine hc.out.mono ?_
      rintro e w1 ⟨rfl, hb⟩
      go_wp2_with fail
      go_ret
      exact ⟨by simp [h1, h6], hb⟩
    · go_enter Tryz.func19, Tryz.ntmps19
      go_wp2_with fail
      go_ret
      exact ⟨by simp, Below.refl _ _⟩
  · go_enter Tryz.func19, Tryz.ntmps19
    go_wp2_with fail
    go_ret
    exact ⟨by simp, Below.refl _ _⟩
end Go.Proofs.YtahckodhnkloeaaGreatDoor

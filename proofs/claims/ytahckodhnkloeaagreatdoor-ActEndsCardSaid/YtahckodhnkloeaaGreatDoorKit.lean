/- Walks: great, Pick, SameReads; texts and reads in memory. -/
import Derived.Test.YtahckodhnkloeaaGreatDoorAwake
namespace Go.Proofs.YtahckodhnkloeaaGreatDoor
open Go Go.RowKit

/-- A slice of texts, below block B. -/
def TextsAt (B : Nat) (w : World) (v : Value) (l : List (List UInt8)) : Prop :=
  ∃ ao cap, v = .slice ao l.length cap ∧ l.length ≤ cap ∧ ∀ i (h : i < l.length), ∃ b off, ao = some ⟨b, off, none⟩ ∧ b < B ∧ w.cell? ⟨b, off + i, none⟩ = some (S l[i])
theorem TextsAt.keeps {w w' : World} {B : Nat} {v : Value} {l : List (List UInt8)} (h : TextsAt B w v l) (hb : Below B w w') : TextsAt B w' v l := by
  obtain ⟨ao, cap, h1, h2, h3⟩ := h
  refine ⟨ao, cap, h1, h2, fun i hi => ?_⟩
  obtain ⟨b, off, g1, g2, g3⟩ := h3 i hi
  exact ⟨b, off, g1, g2, (hb.cell (p := ⟨b, off + i, none⟩) g2).trans g3⟩
/-- A slice of readings, below block B. -/
def ReadsAt (B : Nat) (w : World) (v : Value) (l : List Rd) : Prop :=
  ∃ ao cap, v = .slice ao l.length cap ∧ l.length ≤ cap ∧ ∀ i (h : i < l.length), ∃ b off, ao = some ⟨b, off, none⟩ ∧ b < B ∧ w.cell? ⟨b, off + i * 3, none⟩ = some (S l[i].key) ∧ w.cell? ⟨b, off + i * 3 + 1, none⟩ = some (.bool l[i].is) ∧ w.cell? ⟨b, off + i * 3 + 2, none⟩ = some (S l[i].value)
theorem ReadsAt.keeps {w w' : World} {B : Nat} {v : Value} {l : List Rd} (h : ReadsAt B w v l) (hb : Below B w w') : ReadsAt B w' v l := by
  obtain ⟨ao, cap, h1, h2, h3⟩ := h
  refine ⟨ao, cap, h1, h2, fun i hi => ?_⟩
  obtain ⟨b, off, g1, g2, g3, g4, g5⟩ := h3 i hi
  exact ⟨b, off, g1, g2, (hb.cell (p := ⟨b, off + i * 3, none⟩) g2).trans g3, (hb.cell (p := ⟨b, off + i * 3 + 1, none⟩) g2).trans g4, (hb.cell (p := ⟨b, off + i * 3 + 2, none⟩) g2).trans g5⟩
theorem rdCells_at (l : List Rd) : ∀ i (h : i < l.length), (rdCells l)[i * 3]? = some (S l[i].key) ∧ (rdCells l)[i * 3 + 1]? = some (.bool l[i].is) ∧ (rdCells l)[i * 3 + 2]? = some (S l[i].value) := by
  induction l with
  | nil => intro i h; simp at h
  | cons a r ih =>
    intro i h
    have e : rdCells (a :: r) = S a.key :: .bool a.is :: S a.value :: rdCells r := rfl
    rw [e]
    cases i with
    | zero => exact ⟨rfl, rfl, rfl⟩
    | succ j =>
      have := ih j (by simpa using h)
      have e2 : (j + 1) * 3 = j * 3 + 1 + 1 + 1 := by omega
      rw [e2]
      simpa using this
theorem add_zero_addr (g j : Nat) : (⟨g, 0, none⟩ : Addr).add j = ⟨g, j, none⟩ := by unfold Addr.add; split <;> simp_all
theorem reads_of_owns {w : World} {base : Nat} {e : TypeId} {v : Value} {l : List Rd} (h : w.ownsRow base e 3 v l.length (rdCells l)) : ReadsAt w.heap.size w v l := by
  rcases h.2 with ⟨rfl, h0⟩ | ⟨g, cap, cur, rfl, _, hg, hcap, _⟩
  · have : l = [] := List.length_eq_zero_iff.1 h0
    subst this
    exact ⟨none, 0, rfl, Nat.le_refl _, fun i hi => by simp at hi⟩
  · refine ⟨_, cap, rfl, hcap, fun i hi => ⟨g, 0, rfl, (Array.getElem?_eq_some_iff.1 hg).1, ?_⟩⟩
    have hc := h.cells (g := g) rfl
    obtain ⟨h1, h2, h3⟩ := rdCells_at l i hi
    have a1 := hc _ _ h1
    have a2 := hc _ _ h2
    have a3 := hc _ _ h3
    rw [add_zero_addr] at a1 a2 a3
    simp only [Nat.zero_add]
    exact ⟨a1, a2, a3⟩

theorem pick_calls (x n : Int) (h1 : 1 ≤ n) (h2 : n ≤ 9223372036854775807) (w : World) :
    Calls Tryz.prog 59 #[.int .i64 x, .int .i64 n] w fun e w' => (∃ k : Nat, e = .returned (.int .i64 k) ∧ (k : Int) < n) ∧ w = w' := by
  have g1 := Int.tmod_lt_of_pos x (show 0 < n by omega)
  have g2 := Int.lt_tmod_of_pos x (show 0 < n by omega)
  go_enter Tryz.func59, Tryz.ntmps59
  go_wp2_with fail
  · have hlt : x.tmod n < 0 := by assumption
    go_ret
    exact ⟨⟨(x.tmod n + n).toNat, ret_int (by omega), by omega⟩, rfl⟩
  · have hge : 0 ≤ x.tmod n := by assumption
    go_ret
    exact ⟨⟨(x.tmod n).toNat, ret_int (by omega), by omega⟩, rfl⟩

/-- Are acts too many, texts too long? -/
def greatB (l : List Act) (ss : List (List UInt8)) : Bool := (l.take 41).any (fun a => decide (120 < a.key.length + a.value.length)) || ss.any (fun s => decide (60 < s.length)) || decide (40 < l.length)

/-- Of the first k acts none is too long. -/
def GreatTo (l : List Act) (k : Nat) : Prop := (l.take k).any (fun a => decide (120 < a.key.length + a.value.length)) = false
theorem great_yes {l : List Act} {ss : List (List UInt8)} {k : Nat} (h : k < l.length) (h2 : k < 41) (hb : 120 < l[k].key.length + l[k].value.length) : greatB l ss = true := by
  unfold greatB
  have : (l.take 41).any (fun a => decide (120 < a.key.length + a.value.length)) = true := by
    rw [List.any_eq_true]
    exact ⟨l[k], List.mem_take_iff_getElem.2 ⟨k, by omega, rfl⟩, by simpa using hb⟩
  rw [this]; rfl
theorem great_no {l : List Act} {k : Nat} (hto : GreatTo l k) (h : k < l.length) (hb : ¬ 120 < l[k].key.length + l[k].value.length) : GreatTo l (k + 1) := by
  unfold GreatTo at *
  rw [List.take_succ_eq_append_getElem h, List.any_append, hto]
  simp [hb]

def TextsTo (ss : List (List UInt8)) (j : Nat) : Prop := (ss.take j).any (fun s => decide (60 < s.length)) = false
theorem texts_yes {l : List Act} {ss : List (List UInt8)} {j : Nat} (h : j < ss.length) (hb : 60 < ss[j].length) : greatB l ss = true := by
  unfold greatB
  have : ss.any (fun s => decide (60 < s.length)) = true := by
    rw [List.any_eq_true]
    exact ⟨ss[j], by simp, by simpa using hb⟩
  rw [this]; simp
theorem texts_no {ss : List (List UInt8)} {j : Nat} (hto : TextsTo ss j) (h : j < ss.length) (hb : ¬ 60 < ss[j].length) : TextsTo ss (j + 1) := by
  unfold TextsTo at *
  rw [List.take_succ_eq_append_getElem h, List.any_append, hto]
  simp [hb]
theorem great_first {l : List Act} {k : Nat} (hto : GreatTo l k) (h : 41 ≤ k ∨ l.length ≤ k) : GreatTo l 41 := by
  unfold GreatTo at *
  rw [List.any_eq_false] at *
  intro x hx
  refine hto x ?_
  rcases h with h | h
  · rw [List.mem_take_iff_getElem] at *
    obtain ⟨i, hi, e⟩ := hx
    exact ⟨i, by omega, e⟩
  · rw [List.take_of_length_le h]
    exact List.mem_of_mem_take hx
theorem great_end {l : List Act} {ss : List (List UInt8)} (ht : TextsTo ss ss.length) (h : GreatTo l 41) : greatB l ss = decide (40 < l.length) := by
  unfold greatB
  unfold GreatTo at h
  unfold TextsTo at ht
  rw [List.take_of_length_le (Nat.le_refl _)] at ht
  rw [h, ht]; rfl

set_option maxRecDepth 100000 in
set_option maxHeartbeats 2000000 in
theorem great_calls (l : List Act) (hl : l.length ≤ 140737488351232) (hok : ∀ a ∈ l, a.Ok) (ss : List (List UInt8)) (hss : ∀ s ∈ ss, s.length ≤ 140737488351232) (hsn : ss.length ≤ 1000000) (v vs : Value) (w : World) (h : ActsAt w.heap.size w v l) (hs : TextsAt w.heap.size w vs ss) :
    Calls Tryz.prog 14 #[v, vs] w fun e w' => e = .returned (.bool (greatB l ss)) ∧ Below w.heap.size w w' := by
  obtain ⟨ao, cap, rfl, hlc, hcap, hc⟩ := acts_slice h
  obtain ⟨so, scap, rfl, hsc, hcs⟩ := hs
  have Hc := Lib.hid hc; clear hc h
  have Hs := Lib.hid hcs; clear hcs
  have Hok := Lib.hid hok; clear hok
  have Hss := Lib.hid hss; clear hss
  go_enter Tryz.func14, Tryz.ntmps14
  go_wp2_with fail
  go_loopw [5] (fun i wr => ∃ k : Nat, k ≤ l.length ∧ k ≤ 41 ∧ i = .int .i64 k ∧ Hid (GreatTo l k) ∧ Hid (Below w.heap.size w wr)) (fun i _ => l.length - (intOf i).toNat)
  case atStart => exact ⟨0, Nat.zero_le _, Nat.zero_le _, rfl, by unfold Hid GreatTo; simp, Below.refl _ _⟩
  case round =>
    obtain ⟨k, hk, hk41, rfl, hto, hb⟩ := hrel
    by_cases hlt : k < l.length
    · by_cases hlt2 : k < 41
      · obtain ⟨b, off, e, hbl, hact⟩ := Hc.out k hlt
        subst e
        have hact := hact.keeps hb.out hbl
        have c1 := hact.c1
        have c2 := hact.c2
        clear hact
        have ha := Hok.out _ (List.getElem_mem hlt)
        have hk1 := ha.key
        have hv1 := ha.value
        clear ha
        have hyes := Lib.hid (great_yes (ss := ss) hlt hlt2)
        have hno := Lib.hid (great_no hto.out hlt)
        generalize l[k] = a at *
        obtain ⟨kd, key, val, num⟩ := a
        unfold S at c1 c2
        simp only at hk1 hv1 c1 c2
        have i0 : (0 : Int) ≤ (k : Int) := by omega
        have i1 : (k : Int) < (l.length : Int) := by omega
        go_wp2_with fail
        go_quiet (fail)
        go_wp2_with fail
        · have hgt : 120 < key.length + val.length := by omega
          have hr := Lib.hid (hyes.out hgt)
          go_ret
          exact ⟨ret_bool hr.out.symm, below_drewN hb.out _⟩
        · have hle : ¬ 120 < key.length + val.length := by omega
          have hr := Lib.hid (hno.out hle)
          exact ⟨⟨k + 1, by omega, by omega, by go_num, hr.out, below_drewN hb.out _⟩, by simp [intOf]; omega⟩
      · have hfirst := Lib.hid (great_first hto.out (Or.inl (by omega)))
        have hk41' : k = 41 := by omega
        clear hk41
        subst hk41'
        go_wp2_with fail
        go_loop [6] (fun i => ∃ j : Nat, j ≤ ss.length ∧ i = .int .i64 j ∧ Hid (TextsTo ss j)) (fun i => ss.length - (intOf i).toNat)
        case atStart => exact ⟨0, Nat.zero_le _, rfl, by unfold Hid TextsTo; simp⟩
        case round =>
          obtain ⟨j, hj, rfl, htt⟩ := hrel
          by_cases hjlt : j < ss.length
          · obtain ⟨b, off, e, hbl, c1⟩ := Hs.out j hjlt
            subst e
            replace c1 := (hb.out.cell (p := ⟨b, off + j, none⟩) hbl).trans c1
            have hsl := Hss.out _ (List.getElem_mem hjlt)
            have hyes := Lib.hid (texts_yes (l := l) hjlt)
            have hno := Lib.hid (texts_no htt.out hjlt)
            generalize ss[j] = t at *
            unfold S at c1
            by_cases h60 : 60 < t.length
            · have hr := Lib.hid (hyes.out h60)
              go_wp2_with fail
              go_ret
              exact ⟨ret_bool hr.out.symm, hb.out⟩
            · have hr := Lib.hid (hno.out h60)
              go_wp2_with fail
              exact ⟨⟨j + 1, by omega, by go_num, hr.out⟩, by simp [intOf]; omega⟩
          · obtain rfl : j = ss.length := by omega
            have hr := Lib.hid (great_end htt.out hfirst.out)
            go_wp2_with fail
            go_ret
            exact ⟨ret_bool (by rw [hr.out]; simp; omega), hb.out⟩
    · have hfirst := Lib.hid (great_first hto.out (Or.inr (by omega)))
      obtain rfl : k = l.length := by omega
      go_wp2_with fail
      go_loop [6] (fun i => ∃ j : Nat, j ≤ ss.length ∧ i = .int .i64 j ∧ Hid (TextsTo ss j)) (fun i => ss.length - (intOf i).toNat)
      case atStart => exact ⟨0, Nat.zero_le _, rfl, by unfold Hid TextsTo; simp⟩
      case round =>
        obtain ⟨j, hj, rfl, htt⟩ := hrel
        by_cases hjlt : j < ss.length
        · obtain ⟨b, off, e, hbl, c1⟩ := Hs.out j hjlt
          subst e
          replace c1 := (hb.out.cell (p := ⟨b, off + j, none⟩) hbl).trans c1
          have hsl := Hss.out _ (List.getElem_mem hjlt)
          have hyes := Lib.hid (texts_yes (l := l) hjlt)
          have hno := Lib.hid (texts_no htt.out hjlt)
          generalize ss[j] = t at *
          unfold S at c1
          by_cases h60 : 60 < t.length
          · have hr := Lib.hid (hyes.out h60)
            go_wp2_with fail
            go_ret
            exact ⟨ret_bool hr.out.symm, hb.out⟩
          · have hr := Lib.hid (hno.out h60)
            go_wp2_with fail
            exact ⟨⟨j + 1, by omega, by go_num, hr.out⟩, by simp [intOf]; omega⟩
        · obtain rfl : j = ss.length := by omega
          have hr := Lib.hid (great_end htt.out hfirst.out)
          go_wp2_with fail
          go_ret
          exact ⟨ret_bool (by rw [hr.out]; simp; omega), hb.out⟩

set_option maxRecDepth 100000 in
set_option maxHeartbeats 2000000 in
theorem sameReads_calls (l : List Rd) (hl : l.length ≤ 140737488351232) (v v' : Value) (w : World) (h : ReadsAt w.heap.size w v l) (h' : ReadsAt w.heap.size w v' l) :
    Calls Tryz.prog 18 #[v, v'] w fun e w' => e = .returned (.bool true) ∧ Below w.heap.size w w' := by
  obtain ⟨ao, cap, rfl, hlc, hc⟩ := h
  obtain ⟨ao', cap', rfl, hlc', hc'⟩ := h'
  have Hc := Lib.hid hc; clear hc
  have Hc' := Lib.hid hc'; clear hc'
  go_enter Tryz.func18, Tryz.ntmps18
  go_wp2_with fail
  go_loopw [5] (fun i wr => ∃ k : Nat, k ≤ l.length ∧ i = .int .i64 k ∧ Hid (Below w.heap.size w wr)) (fun i _ => l.length - (intOf i).toNat)
  case atStart => exact ⟨0, Nat.zero_le _, rfl, Below.refl _ _⟩
  case round =>
    obtain ⟨k, hk, rfl, hb⟩ := hrel
    by_cases hlt : k < l.length
    · obtain ⟨b, off, e, hbl, c0, c1, c2⟩ := Hc.out k hlt
      obtain ⟨b', off', e', hbl', c0', c1', c2'⟩ := Hc'.out k hlt
      subst e e'
      replace c0 := (hb.out.cell (p := ⟨b, off + k * 3, none⟩) hbl).trans c0
      replace c1 := (hb.out.cell (p := ⟨b, off + k * 3 + 1, none⟩) hbl).trans c1
      replace c2 := (hb.out.cell (p := ⟨b, off + k * 3 + 2, none⟩) hbl).trans c2
      replace c0' := (hb.out.cell (p := ⟨b', off' + k * 3, none⟩) hbl').trans c0'
      replace c1' := (hb.out.cell (p := ⟨b', off' + k * 3 + 1, none⟩) hbl').trans c1'
      replace c2' := (hb.out.cell (p := ⟨b', off' + k * 3 + 2, none⟩) hbl').trans c2'
      generalize l[k] = r at *
      obtain ⟨key, ris, val⟩ := r
      unfold S at *
      simp only at c0 c1 c2 c0' c1' c2'
      have i0 : (0 : Int) ≤ (k : Int) := by omega
      have i1 : (k : Int) < (l.length : Int) := by omega
      go_wp2_with fail
      go_quiet (fail)
      go_wp2_with fail
      exact ⟨⟨k + 1, by omega, by go_num, below_drewN hb.out _⟩, by simp [intOf]; omega⟩
    · obtain rfl : k = l.length := by omega
      go_wp2_with fail
      go_ret
      exact ⟨rfl, hb.out⟩
end Go.Proofs.YtahckodhnkloeaaGreatDoor

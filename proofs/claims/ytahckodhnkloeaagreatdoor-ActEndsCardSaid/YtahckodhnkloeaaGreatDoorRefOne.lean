/- Walks: the reference's Key, value, one, Right, Name, Older; act.Name. -/
import Derived.Test.YtahckodhnkloeaaGreatDoorOlder
namespace Go.Proofs.YtahckodhnkloeaaGreatDoor
open Go Go.RowKit

def nameB (c n : Int) : Bool := decide (1 ≤ c) && (decide (c ≤ 8) && (decide (1 ≤ n) && decide (n ≤ 1073741824)))

set_option maxRecDepth 100000 in
set_option maxHeartbeats 2000000 in
theorem refOlder_calls (c n c' n' : Int) (w : World) : Calls Tryz.prog 24 #[nameV c n, nameV c' n'] w fun e w' => e = .returned (.bool (olderB c n c' n')) ∧ Below w.heap.size w w' := by
  unfold nameV
  by_cases h1 : n < n'
  · go_enter Tryz.func24, Tryz.ntmps24
    go_wp2_with fail
    go_ret
    exact ⟨ret_bool (by simp [olderB, h1]), up_alloc (up_alloc (Below.refl _ _))⟩
  · by_cases h2 : n = n'
    · subst h2
      go_enter Tryz.func24, Tryz.ntmps24
      go_wp2_with fail
      go_ret
      exact ⟨ret_bool (by simp [olderB]), up_alloc (up_alloc (Below.refl _ _))⟩
    · go_enter Tryz.func24, Tryz.ntmps24
      go_wp2_with fail
      go_ret
      exact ⟨ret_bool (by simp [olderB, h1, h2]), up_alloc (up_alloc (Below.refl _ _))⟩

set_option maxRecDepth 100000 in
set_option maxHeartbeats 2000000 in
theorem name_calls (c n : Int) (w : World) : Calls Tryz.prog 21 #[nameV c n] w fun e w' => e = .returned (.bool (nameB c n)) ∧ Below w.heap.size w w' := by
  unfold nameV
  go_enter Tryz.func21, Tryz.ntmps21
  by_cases h1 : 1 ≤ c
  · by_cases h2 : c ≤ 8
    · by_cases h3 : 1 ≤ n
      · go_wp2_with fail
        go_ret
        exact ⟨ret_bool (by first | (simp [nameB]; done) | (rw [Bool.eq_iff_iff]; simp [nameB]; done) | (rw [Bool.eq_iff_iff]; simp [nameB]; omega)), up_alloc (Below.refl _ _)⟩
      · go_wp2_with fail
        go_ret
        exact ⟨ret_bool (by first | (simp [nameB]; done) | (rw [Bool.eq_iff_iff]; simp [nameB]; done) | (rw [Bool.eq_iff_iff]; simp [nameB]; omega)), up_alloc (Below.refl _ _)⟩
    · go_wp2_with fail
      go_ret
      exact ⟨ret_bool (by first | (simp [nameB]; done) | (rw [Bool.eq_iff_iff]; simp [nameB]; done) | (rw [Bool.eq_iff_iff]; simp [nameB]; omega)), up_alloc (Below.refl _ _)⟩
  · go_wp2_with fail
    go_ret
    exact ⟨ret_bool (by first | (simp [nameB]; done) | (rw [Bool.eq_iff_iff]; simp [nameB]; done) | (rw [Bool.eq_iff_iff]; simp [nameB]; omega)), up_alloc (Below.refl _ _)⟩

set_option maxRecDepth 100000 in
set_option maxHeartbeats 2000000 in
theorem refName_calls (c n : Int) (w : World) : Calls Tryz.prog 22 #[nameV c n] w fun e w' => e = .returned (.bool (nameB c n)) ∧ Below w.heap.size w w' := by
  unfold nameV
  go_enter Tryz.func22, Tryz.ntmps22
  by_cases h1 : 1 ≤ c
  · by_cases h2 : c ≤ 8
    · by_cases h3 : 1 ≤ n
      · go_wp2_with fail
        go_ret
        exact ⟨ret_bool (by first | (simp [nameB]; done) | (rw [Bool.eq_iff_iff]; simp [nameB]; done) | (rw [Bool.eq_iff_iff]; simp [nameB]; omega)), up_alloc (Below.refl _ _)⟩
      · go_wp2_with fail
        go_ret
        exact ⟨ret_bool (by first | (simp [nameB]; done) | (rw [Bool.eq_iff_iff]; simp [nameB]; done) | (rw [Bool.eq_iff_iff]; simp [nameB]; omega)), up_alloc (Below.refl _ _)⟩
    · go_wp2_with fail
      go_ret
      exact ⟨ret_bool (by first | (simp [nameB]; done) | (rw [Bool.eq_iff_iff]; simp [nameB]; done) | (rw [Bool.eq_iff_iff]; simp [nameB]; omega)), up_alloc (Below.refl _ _)⟩
  · go_wp2_with fail
    go_ret
    exact ⟨ret_bool (by first | (simp [nameB]; done) | (rw [Bool.eq_iff_iff]; simp [nameB]; done) | (rw [Bool.eq_iff_iff]; simp [nameB]; omega)), up_alloc (Below.refl _ _)⟩
set_option maxRecDepth 100000 in
set_option maxHeartbeats 2000000 in
theorem refKey_calls (l : List UInt8) (hs : l.length ≤ 140737488351232) (w : World) : Calls Tryz.prog 126 #[S l] w fun e w' => e = .returned (.bool (keyB l)) ∧ w = w' := by
  unfold S
  by_cases hz : l = []
  · subst hz
    go_enter Tryz.func126, Tryz.ntmps126
    go_wp2_with fail
    go_ret
    exact ⟨rfl, rfl⟩
  · have hz1 : 1 ≤ l.length := List.length_pos_iff.2 hz
    by_cases hl : l.length ≤ 20
    · go_enter Tryz.func126, Tryz.ntmps126
      go_wp2_with fail
      go_loop [3] (fun i => ∃ k : Nat, k ≤ l.length ∧ i = .int .i64 k ∧ Hid ((l.take k).all keyByte = true)) (fun i => l.length - (intOf i).toNat)
      case atStart => exact ⟨0, Nat.zero_le _, rfl, by simp [Hid]⟩
      case round =>
        obtain ⟨k, hk, rfl, hall⟩ := hrel
        by_cases hlt : k < l.length
        · go_wp2
          all_goals
            have hx : (⟨l.toArray⟩ : ByteArray)[k] = l[k] := rfl
            simp only [hx, Bool.not_eq_true', Bool.not_eq_false', decide_eq_true_eq, decide_eq_false_iff_not] at *
            clear hx
          all_goals first
            | (have hb := Lib.hid (key_bad (l := l) hlt (by rw [Bool.eq_false_iff, Ne, keyByte_iff]; omega))
               go_ret
               exact ⟨ret_bool hb.out.symm, rfl⟩)
            | (refine ⟨⟨k + 1, by omega, by go_num, key_snoc hlt hall (by rw [keyByte_iff]; omega)⟩, by simp [intOf]; omega⟩)
        · obtain rfl : k = l.length := by omega
          have hb := Lib.hid (key_good hz hl hall)
          go_wp2
          go_ret
          exact ⟨ret_bool hb.out.symm, rfl⟩
    · have hb := Lib.hid (show keyB l = false by unfold keyB; rw [show decide (l.length ≤ 20) = false by simp only [decide_eq_false_iff_not]; omega]; simp)
      go_enter Tryz.func126, Tryz.ntmps126
      go_wp2_with fail
      go_ret
      exact ⟨ret_bool hb.out.symm, rfl⟩

theorem letByte_iff (b : UInt8) : letByte b = true ↔ ((97 ≤ (b.toNat : Int) ∧ (b.toNat : Int) ≤ 122) ∨ (48 ≤ (b.toNat : Int) ∧ (b.toNat : Int) ≤ 57)) ∨ (b.toNat : Int) = 45 := by
  unfold letByte
  rw [Bool.or_eq_true, keyByte_iff, beq_iff_eq, ← UInt8.toNat_inj]
  simp
  omega
def valB (l : List UInt8) : Bool := decide (l.length ≤ 20) && l.all letByte
theorem val_bad {l : List UInt8} {k : Nat} (h : k < l.length) (hb : letByte l[k] = false) : valB l = false := by
  unfold valB
  rw [Bool.and_eq_false_iff]
  right
  rw [List.all_eq_false]
  exact ⟨l[k], by simp, by simpa using hb⟩
theorem val_good {l : List UInt8} (h : Hid ((l.take l.length).all letByte = true)) : valB l = decide (l.length ≤ 20) := by
  have h := h.out
  unfold valB
  rw [List.take_of_length_le (by omega)] at h
  rw [h]
  simp
theorem val_snoc {l : List UInt8} {k : Nat} (h : k < l.length) (ha : Hid ((l.take k).all letByte = true)) (hb : letByte l[k] = true) : Hid ((l.take (k + 1)).all letByte = true) := by
  have ha := ha.out
  unfold Hid
  rw [List.take_succ_eq_append_getElem h, List.all_append, ha]; simp [hb]

set_option maxRecDepth 100000 in
set_option maxHeartbeats 2000000 in
theorem refText_calls (l : List UInt8) (hs : l.length ≤ 140737488351232) (w : World) : Calls Tryz.prog 127 #[S l] w fun e w' => e = .returned (.bool (valB l)) ∧ w = w' := by
  unfold S
  go_enter Tryz.func127, Tryz.ntmps127
  go_wp2_with fail
  go_loop [3] (fun i => ∃ k : Nat, k ≤ l.length ∧ i = .int .i64 k ∧ Hid ((l.take k).all letByte = true)) (fun i => l.length - (intOf i).toNat)
  case atStart => exact ⟨0, Nat.zero_le _, rfl, by simp [Hid]⟩
  case round =>
    obtain ⟨k, hk, rfl, hall⟩ := hrel
    by_cases hlt : k < l.length
    · go_wp2
      all_goals
        have hx : (⟨l.toArray⟩ : ByteArray)[k] = l[k] := rfl
        simp only [hx, Bool.not_eq_true', Bool.not_eq_false', decide_eq_true_eq, decide_eq_false_iff_not, beq_iff_eq, beq_eq_false_iff_ne, ne_eq] at *
        clear hx
      all_goals first
        | (have hb := Lib.hid (val_bad (l := l) hlt (by rw [Bool.eq_false_iff, Ne, letByte_iff]; omega))
           go_ret
           exact ⟨ret_bool hb.out.symm, rfl⟩)
        | (refine ⟨⟨k + 1, by omega, by go_num, val_snoc hlt hall (by rw [letByte_iff]; omega)⟩, by simp [intOf]; omega⟩)
    · obtain rfl : k = l.length := by omega
      have hb := Lib.hid (val_good hall)
      go_wp2
      go_ret
      exact ⟨ret_bool (by rw [hb.out, Bool.eq_iff_iff]; simp; omega), rfl⟩
-- the reference's one, kind by kind
set_option maxRecDepth 100000 in
set_option maxHeartbeats 2000000 in
theorem one_get (key value : List UInt8) (n : Int) (hk : key.length ≤ 140737488351232) (hv : value.length ≤ 140737488351232) (w : World) :
    Calls Tryz.prog 76 #[.agg #[.int .u8 1, S key, S value, .int .i64 n]] w fun e w' => e = .returned (.bool (keyB key && (value.isEmpty && decide (n = 0)))) ∧ Below w.heap.size w w' := by
  unfold S
  go_enter Tryz.func76, Tryz.ntmps76
  go_wp2_with fail
  have h := Lib.hid (refKey_calls key hk (w.alloc (.cells #[.int .u8 1, .string ⟨key.toArray⟩, .string ⟨value.toArray⟩, .int .i64 n] 51)))
  refine h.out.mono ?_
  rintro e w1 ⟨rfl, rfl⟩
  clear h
  cases hb : keyB key
  · go_wp2_with fail
    go_ret
    exact ⟨ret_bool (by first | (simp [hb]; done) | (rw [Bool.eq_iff_iff]; simp [hb]; done) | (rw [Bool.eq_iff_iff]; simp [hb]; omega)), up_alloc (Below.refl _ _)⟩
  · cases value with
    | nil =>
      by_cases hn : n = 0
      · subst hn
        go_wp2_with fail
        go_ret
        exact ⟨ret_bool (by first | (simp []; done) | (rw [Bool.eq_iff_iff]; simp []; done) | (rw [Bool.eq_iff_iff]; simp []; omega)), up_alloc (Below.refl _ _)⟩
      · have hn2 : (n == 0) = false := by simpa using hn
        go_wp2_with fail
        go_ret
        exact ⟨ret_bool (by first | (simp [hb, hn]; done) | (rw [Bool.eq_iff_iff]; simp [hb, hn]; done) | (rw [Bool.eq_iff_iff]; simp [hb, hn]; omega)), up_alloc (Below.refl _ _)⟩
    | cons b r =>
      go_wp2_with fail
      go_ret
      exact ⟨ret_bool (by first | (simp [hb]; done) | (rw [Bool.eq_iff_iff]; simp [hb]; done) | (rw [Bool.eq_iff_iff]; simp [hb]; omega)), up_alloc (Below.refl _ _)⟩

set_option maxRecDepth 100000 in
set_option maxHeartbeats 2000000 in
theorem one_put (key value : List UInt8) (n : Int) (hk : key.length ≤ 140737488351232) (hv : value.length ≤ 140737488351232) (w : World) :
    Calls Tryz.prog 76 #[.agg #[.int .u8 2, S key, S value, .int .i64 n]] w fun e w' => e = .returned (.bool (keyB key && (valB value && decide (n = 0)))) ∧ Below w.heap.size w w' := by
  unfold S
  go_enter Tryz.func76, Tryz.ntmps76
  go_wp2_with fail
  have h := Lib.hid (refKey_calls key hk (w.alloc (.cells #[.int .u8 2, .string ⟨key.toArray⟩, .string ⟨value.toArray⟩, .int .i64 n] 51)))
  refine h.out.mono ?_
  rintro e w1 ⟨rfl, rfl⟩
  clear h
  cases hb : keyB key
  · go_wp2_with fail
    go_ret
    exact ⟨ret_bool (by first | (simp [hb]; done) | (rw [Bool.eq_iff_iff]; simp [hb]; done) | (rw [Bool.eq_iff_iff]; simp [hb]; omega)), up_alloc (Below.refl _ _)⟩
  · go_wp2_with fail
    have h2 := Lib.hid (refText_calls value hv (w.alloc (.cells #[.int .u8 2, .string ⟨key.toArray⟩, .string ⟨value.toArray⟩, .int .i64 n] 51)))
    refine h2.out.mono ?_
    rintro e w2 ⟨rfl, rfl⟩
    clear h2
    cases hvb : valB value
    · go_wp2_with fail
      go_ret
      exact ⟨ret_bool (by first | (simp [hb, hvb]; done) | (rw [Bool.eq_iff_iff]; simp [hb, hvb]; done) | (rw [Bool.eq_iff_iff]; simp [hb, hvb]; omega)), up_alloc (Below.refl _ _)⟩
    · by_cases hn : n = 0
      · subst hn
        go_wp2_with fail
        go_ret
        exact ⟨ret_bool (by first | (simp ; done) | (rw [Bool.eq_iff_iff]; simp ; done) | (rw [Bool.eq_iff_iff]; simp ; omega)), up_alloc (Below.refl _ _)⟩
      · have hn2 : (n == 0) = false := by simpa using hn
        go_wp2_with fail
        go_ret
        exact ⟨ret_bool (by first | (simp [hb, hvb, hn]; done) | (rw [Bool.eq_iff_iff]; simp [hb, hvb, hn]; done) | (rw [Bool.eq_iff_iff]; simp [hb, hvb, hn]; omega)), up_alloc (Below.refl _ _)⟩

set_option maxRecDepth 100000 in
set_option maxHeartbeats 2000000 in
theorem one_add (key value : List UInt8) (n : Int) (hk : key.length ≤ 140737488351232) (hv : value.length ≤ 140737488351232) (w : World) :
    Calls Tryz.prog 76 #[.agg #[.int .u8 3, S key, S value, .int .i64 n]] w fun e w' => e = .returned (.bool (keyB key && (value.isEmpty && decide (-1073741824 ≤ n ∧ n ≤ 1073741824)))) ∧ Below w.heap.size w w' := by
  unfold S
  go_enter Tryz.func76, Tryz.ntmps76
  go_wp2_with fail
  have h := Lib.hid (refKey_calls key hk (w.alloc (.cells #[.int .u8 3, .string ⟨key.toArray⟩, .string ⟨value.toArray⟩, .int .i64 n] 51)))
  refine h.out.mono ?_
  rintro e w1 ⟨rfl, rfl⟩
  clear h
  cases hb : keyB key
  · go_wp2_with fail
    go_ret
    exact ⟨ret_bool (by first | (simp [hb]; done) | (rw [Bool.eq_iff_iff]; simp [hb]; done) | (rw [Bool.eq_iff_iff]; simp [hb]; omega)), up_alloc (Below.refl _ _)⟩
  · cases value with
    | nil =>
      by_cases hn : -1073741824 ≤ n
      · by_cases hn2 : n ≤ 1073741824
        · go_wp2_with fail
          go_ret
          exact ⟨ret_bool (by first | (simp [hb, hn, hn2]; done) | (rw [Bool.eq_iff_iff]; simp [hb, hn, hn2]; done) | (rw [Bool.eq_iff_iff]; simp [hb, hn, hn2]; omega)), up_alloc (Below.refl _ _)⟩
          
        · go_wp2_with fail
          go_ret
          exact ⟨ret_bool (by first | (simp [hb, hn]; done) | (rw [Bool.eq_iff_iff]; simp [hb, hn]; done) | (rw [Bool.eq_iff_iff]; simp [hb, hn]; omega)), up_alloc (Below.refl _ _)⟩
          
      · go_wp2_with fail
        go_ret
        exact ⟨ret_bool (by first | (simp ; done) | (rw [Bool.eq_iff_iff]; simp ; done) | (rw [Bool.eq_iff_iff]; simp ; omega)), up_alloc (Below.refl _ _)⟩
    | cons b r =>
      go_wp2_with fail
      go_ret
      exact ⟨ret_bool (by first | (simp [hb]; done) | (rw [Bool.eq_iff_iff]; simp [hb]; done) | (rw [Bool.eq_iff_iff]; simp [hb]; omega)), up_alloc (Below.refl _ _)⟩

theorem one_calls (a : Act) (ha : a.Ok) (w : World) : Calls Tryz.prog 76 #[a.agg] w fun e w' => e = .returned (.bool (actB a)) ∧ Below w.heap.size w w' := by
  obtain ⟨k, key, value, n⟩ := a
  by_cases h1 : k = 1
  · subst h1
    exact one_get key value n ha.key ha.value w
  · by_cases h2 : k = 2
    · subst h2
      exact one_put key value n ha.key ha.value w
    · by_cases h3 : k = 3
      · subst h3
        exact one_add key value n ha.key ha.value w
      · have hf : actB ⟨k, key, value, n⟩ = false := by simp [actB, h1, h2, h3]
        rw [hf]
        have e1 : (k == 1) = false := by simpa using h1
        have e2 : (k == 2) = false := by simpa using h2
        have e3 : (k == 3) = false := by simpa using h3
        unfold Act.agg S
        go_enter Tryz.func76, Tryz.ntmps76
        go_wp2_with fail
        go_ret
        exact ⟨rfl, up_alloc (Below.refl _ _)⟩

set_option maxRecDepth 100000 in
set_option maxHeartbeats 2000000 in
theorem refRight_calls (l : List Act) (hl : l.length ≤ 140737488351232) (hok : ∀ a ∈ l, a.Ok) (v : Value) (w : World) (h : ActsAt w.heap.size w v l) :
    Calls Tryz.prog 20 #[v] w fun e w' => e = .returned (.bool (actsB l)) ∧ Below w.heap.size w w' := by
  obtain ⟨ao, cap, rfl, hlc, hcap, hc⟩ := acts_slice h
  have Hc := Lib.hid hc; clear hc h
  have Hok := Lib.hid hok; clear hok
  go_enter Tryz.func20, Tryz.ntmps20
  go_wp2_with fail
  go_loopw [3] (fun i wr => ∃ k : Nat, k ≤ l.length ∧ i = .int .i64 k ∧ Hid ((l.take k).all actB = true) ∧ Hid (Below w.heap.size w wr)) (fun i _ => l.length - (intOf i).toNat)
  case atStart => exact ⟨0, Nat.zero_le _, rfl, by simp [Hid], Below.refl _ _⟩
  case round =>
    obtain ⟨k, hk, rfl, hall, hb⟩ := hrel
    by_cases hlt : k < l.length
    · obtain ⟨b, off, e, hbl, hact⟩ := Hc.out k hlt
      subst e
      have hact := hact.keeps hb.out hbl
      have c0 := hact.c0
      have c1 := hact.c1
      have c2 := hact.c2
      have c3 := hact.c3
      clear hact
      have hr := Lib.hid (one_calls l[k] (Hok.out _ (List.getElem_mem hlt)) wr)
      have hn := Lib.hid (all_next hlt hall)
      have hf := Lib.hid (all_stop hlt)
      generalize l[k] = a at *
      unfold Act.agg at hr
      unfold S at c1 c2
      have i1 : (0 : Int) ≤ (k : Int) := by omega
      have i2 : (k : Int) < (l.length : Int) := by omega
      go_wp2_with fail
      refine hr.out.mono ?_
      rintro e w1 ⟨rfl, hb1⟩
      have Hb1 := Lib.hid (up_trans hb.out hb1); clear hb1
      cases hab : actB a
      · replace hf := Lib.hid (hf.out hab)
        clear hab hn hr
        go_wp2_with fail
        go_ret
        exact ⟨ret_bool (by unfold actsB; rw [hf.out]; simp), Hb1.out⟩
      · replace hn := Lib.hid (hn.out hab)
        clear hab hf hr
        go_wp2_with fail
        exact ⟨⟨k + 1, by omega, by go_num, hn.out, Hb1.out⟩, by simp [intOf]; omega⟩
    · obtain rfl : k = l.length := by omega
      have hn := Lib.hid (all_end hall)
      have he : actsB l = (decide (1 ≤ l.length) && decide (l.length ≤ 6)) := by unfold actsB; rw [hn.out, Bool.and_true]
      have He := Lib.hid he; clear he
      by_cases h1 : 1 ≤ l.length
      · go_wp2_with fail
        go_ret
        exact ⟨ret_bool (by rw [He.out, Bool.eq_iff_iff]; simp; omega), hb.out⟩
      · go_wp2_with fail
        go_ret
        exact ⟨ret_bool (by rw [He.out, Bool.eq_iff_iff]; simp; omega), hb.out⟩
end Go.Proofs.YtahckodhnkloeaaGreatDoor

/- Walk: span.Key; which keys and acts are right. -/
import Derived.Test.YtahckodhnkloeaaGreatDoorNum
import Derived.Test.YtahckodhnkloeaaGreatDoorMap
import Derived.Lib.QuietBelow
import Derived.Deep.RegionHeld3
import Derived.Deep.DeepCutAuto
namespace Go.Proofs.YtahckodhnkloeaaGreatDoor
open Go Go.RowKit

def keyByte (b : UInt8) : Bool := (decide (97 ≤ b.toNat) && decide (b.toNat ≤ 122)) || isDig b
def keyB (l : List UInt8) : Bool := !l.isEmpty && decide (l.length ≤ 20) && l.all keyByte
theorem keyByte_iff (b : UInt8) : keyByte b = true ↔ (97 ≤ (b.toNat : Int) ∧ (b.toNat : Int) ≤ 122) ∨ (48 ≤ (b.toNat : Int) ∧ (b.toNat : Int) ≤ 57) := by
  unfold keyByte; rw [Bool.or_eq_true, isDig_iff]; simp; omega

theorem key_bad {l : List UInt8} {k : Nat} (h : k < l.length) (hb : keyByte l[k] = false) : keyB l = false := by
  unfold keyB
  rw [Bool.and_eq_false_iff]
  right
  rw [List.all_eq_false]
  exact ⟨l[k], by simp, by simpa using hb⟩
theorem key_good {l : List UInt8} (h0 : l ≠ []) (h1 : l.length ≤ 20) (h : Hid ((l.take l.length).all keyByte = true)) : keyB l = true := by
  have h := h.out
  unfold keyB
  rw [List.take_of_length_le (by omega)] at h
  rw [h]
  simp [h0, h1]
theorem key_snoc {l : List UInt8} {k : Nat} (h : k < l.length) (ha : Hid ((l.take k).all keyByte = true)) (hb : keyByte l[k] = true) : Hid ((l.take (k + 1)).all keyByte = true) := by
  have ha := ha.out
  unfold Hid
  rw [List.take_succ_eq_append_getElem h, List.all_append, ha]; simp [hb]
theorem ret_bool {a b : Bool} (h : a = b) : Ending.returned (.bool a) = .returned (.bool b) := by rw [h]

theorem key_calls (l : List UInt8) (hs : l.length ≤ 140737488351232) (w : World) : Calls Tryz.prog 125 #[S l] w fun e w' => e = .returned (.bool (keyB l)) ∧ w = w' := by
  unfold S
  by_cases hz : l = []
  · subst hz
    go_enter Tryz.func125, Tryz.ntmps125
    go_wp2_with fail
    go_ret
    exact ⟨rfl, rfl⟩
  · have hz2 : (l == []) = false := by simp [hz]
    have hz3 : l.isEmpty = false := by simp [hz]
    by_cases hl : l.length ≤ 20
    · go_enter Tryz.func125, Tryz.ntmps125
      go_wp2_with fail
      go_loop [14] (fun i => ∃ k : Nat, k ≤ l.length ∧ i = .int .i64 k ∧ Hid ((l.take k).all keyByte = true)) (fun i => l.length - (intOf i).toNat)
      case atStart => exact ⟨0, Nat.zero_le _, rfl, by simp [Hid]⟩
      case round =>
        obtain ⟨k, hk, rfl, hall⟩ := hrel
        by_cases hlt : k < l.length
        · go_wp2
          all_goals
            have hx : (⟨l.toArray⟩ : ByteArray)[k] = l[k] := rfl
            simp only [hx, Bool.not_eq_true', Bool.not_eq_false', decide_eq_true_eq, decide_eq_false_iff_not] at *
            clear hx
          all_goals first
            | (have hb := Lib.hid (key_bad (l := l) hlt (by rw [Bool.eq_false_iff, Ne, keyByte_iff]; omega))
               go_ret
               exact ⟨ret_bool hb.out.symm, rfl⟩)
            | (refine ⟨⟨k + 1, by omega, by go_num, key_snoc hlt hall (by rw [keyByte_iff]; omega)⟩, by simp [intOf]; omega⟩)
        · obtain rfl : k = l.length := by omega
          have hb := Lib.hid (key_good hz hl hall)
          go_wp2
          go_ret
          exact ⟨ret_bool hb.out.symm, rfl⟩
    · have hb := Lib.hid (show keyB l = false by unfold keyB; rw [show decide (l.length ≤ 20) = false by simp only [decide_eq_false_iff_not]; omega]; simp)
      go_enter Tryz.func125, Tryz.ntmps125
      go_wp2_with fail
      go_ret
      exact ⟨ret_bool hb.out.symm, rfl⟩

def letters : List UInt8 := [97, 98, 99, 100, 101, 102, 103, 104, 105, 106, 107, 108, 109, 110, 111, 112, 113, 114, 115, 116, 117, 118, 119, 120, 121, 122, 48, 49, 50, 51, 52, 53, 54, 55, 56, 57, 45]
def letByte (b : UInt8) : Bool := keyByte b || b == 45
theorem letters_contains (b : UInt8) : letters.contains b = letByte b := by
  rw [Bool.eq_iff_iff, List.contains_iff_mem]
  unfold letByte
  rw [Bool.or_eq_true, keyByte_iff, beq_iff_eq]
  simp only [letters, List.mem_cons, List.mem_nil_iff, or_false, ← UInt8.toNat_inj]
  simp
  omega
theorem trim_letters (l : List UInt8) : Lib.trimS l letters = [] ↔ l.all letByte = true := by
  rw [trimS_nil_iff]
  have : (fun b : UInt8 => letters.contains b) = letByte := funext letters_contains
  rw [this]
theorem trim_letters_calls (l : List UInt8) (hl : l.length ≤ 140737488351232) (w : World) : Calls Tryz.prog 80 #[S l, S letters] w fun e w' => e = .returned (S (Lib.trimS l letters)) ∧ Below w.heap.size w w' :=
  Tryz.strings_Trim_laid ⟨l.toArray⟩ ⟨letters.toArray⟩ w (by show l.length ≤ _; omega) (by decide) (ascii_of_all (by decide))

/-- An act: its kind, key, value and number. -/
structure Act where
  kind : Int
  key : List UInt8
  value : List UInt8
  num : Int
def Act.agg (a : Act) : Value := .agg #[.int .u8 a.kind, S a.key, S a.value, .int .i64 a.num]
/-- Is an act right, by the document? -/
def actB (a : Act) : Bool := keyB a.key && (if a.kind = 1 then a.value.isEmpty && decide (a.num = 0) else if a.kind = 2 then decide (a.value.length ≤ 20) && a.value.all letByte && decide (a.num = 0) else if a.kind = 3 then a.value.isEmpty && decide (-1073741824 ≤ a.num ∧ a.num ≤ 1073741824) else false)
structure Act.Ok (a : Act) : Prop where
  k0 : 0 ≤ a.kind
  k1 : a.kind < 256
  key : a.key.length ≤ 140737488351232
  value : a.value.length ≤ 140737488351232
  n0 : -9223372036854775808 ≤ a.num
  n1 : a.num ≤ 9223372036854775807

theorem trim_letters_nil (w : World) : Calls Tryz.prog 80 #[.string ⟨#[]⟩, .string ⟨letters.toArray⟩] w fun e w' => e = .returned (.string ⟨#[]⟩) ∧ Below w.heap.size w w' := trim_letters_calls [] (by simp) w

theorem up_alloc {w w1 : World} {o : Obj} (h : Below (w.alloc o).heap.size (w.alloc o) w1) : Below w.heap.size w w1 := ((Below.refl _ _).alloc (Nat.le_refl _) o).trans (h.mono (by simp))
theorem beq_dec {a b : Int} : (a == b) = decide (a = b) := by rw [Bool.eq_iff_iff]; simp
theorem cutN_beq (n : Int) : (n == cutN n) = decide (-1073741824 ≤ n ∧ n ≤ 1073741824) := by
  rw [Bool.eq_iff_iff]
  simp only [beq_iff_eq, decide_eq_true_eq]
  exact ⟨fun h => cutN_eq h, fun h => (cutN_id h.1 h.2).symm⟩
theorem act_empty (k n : Int) (key : List UInt8) (b0 b1 b3 : Bool) (h0 : (n == 0) = b0) (h1 : (n == cutN n) = b1) (h3 : (three k (.bool b0) (.bool b0) (.bool b1)).getD (.bool false) = Value.bool b3) :
    actB ⟨k, key, [], n⟩ = (keyB key && b3) := by
  unfold actB
  rw [cutN_beq] at h1
  rw [beq_dec] at h0
  unfold three at h3
  subst h0 h1
  congr 1
  by_cases e1 : k = 1
  · simp [e1] at h3 ⊢; exact h3
  · by_cases e2 : k = 2
    · simp [e2] at h3 ⊢; exact h3
    · by_cases e3 : k = 3
      · simp [e3] at h3 ⊢; exact h3
      · simp [e1, e2, e3] at h3 ⊢; exact h3

theorem act_other (k n : Int) (key value : List UInt8) (hv : value ≠ []) (b2 b3 : Bool) (h2 : (decide (value.length ≤ 20) && value.all letByte && (n == 0)) = b2) (h3 : (three k (.bool false) (.bool b2) (.bool false)).getD (.bool false) = Value.bool b3) :
    actB ⟨k, key, value, n⟩ = (keyB key && b3) := by
  unfold actB
  rw [beq_dec] at h2
  unfold three at h3
  subst h2
  congr 1
  have he : value.isEmpty = false := by simp [hv]
  by_cases e1 : k = 1
  · simp [e1, he] at h3 ⊢; exact h3
  · by_cases e2 : k = 2
    · simp [e2] at h3 ⊢; exact h3
    · by_cases e3 : k = 3
      · simp [e3, he] at h3 ⊢; exact h3
      · simp [e1, e2, e3] at h3 ⊢; exact h3

end Go.Proofs.YtahckodhnkloeaaGreatDoor

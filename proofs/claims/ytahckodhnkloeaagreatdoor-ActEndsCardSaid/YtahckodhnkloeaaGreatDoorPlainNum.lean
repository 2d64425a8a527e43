/- Plain lemmas on numbers and texts of chapter 14: a text as a number, a number as a text. No program in sight. -/
import Derived.Lib.ItoaNum
import Derived.Lib.AtoiAll
import Derived.Lib.SlTrimSet
import Derived.Lib.Strings
namespace Go.Proofs.YtahckodhnkloeaaGreatDoor
open Go

/-- A number, cut. -/
def cutN (n : Int) : Int := if n < 1073741824 then (if -1073741824 < n then n else -1073741824) else 1073741824
theorem cutN_lo (n : Int) : -1073741824 ≤ cutN n := by unfold cutN; split <;> (try split) <;> omega
theorem cutN_hi (n : Int) : cutN n ≤ 1073741824 := by unfold cutN; split <;> (try split) <;> omega
theorem cutN_id {n : Int} (h0 : -1073741824 ≤ n) (h1 : n ≤ 1073741824) : cutN n = n := by unfold cutN; split <;> (try split) <;> omega
theorem cutN_eq {n : Int} (h : n = cutN n) : -1073741824 ≤ n ∧ n ≤ 1073741824 := by rw [h]; exact ⟨cutN_lo _, cutN_hi _⟩
theorem cutN_minmax (n : Int) : max (min n 1073741824) (-1073741824) = cutN n := by unfold cutN; split <;> (try split) <;> omega

def isDig (b : UInt8) : Bool := decide (48 ≤ b.toNat) && decide (b.toNat ≤ 57)
theorem isDig_iff (b : UInt8) : isDig b = true ↔ 48 ≤ b.toNat ∧ b.toNat ≤ 57 := by simp [isDig]

/-- What a digit stands for. -/
def dv (b : UInt8) : Nat := b.toNat - 48
/-- What digits spell, behind what stood ahead. -/
def val (n : Nat) (l : List UInt8) : Nat := l.foldl (fun a b => a * 10 + dv b) n
/-- The same, kept at most M. -/
def sat (M n : Nat) (l : List UInt8) : Nat := l.foldl (fun a b => min (a * 10 + dv b) M) n
theorem val_nil (n : Nat) : val n [] = n := rfl
theorem val_cons (n : Nat) (b : UInt8) (r : List UInt8) : val n (b :: r) = val (n * 10 + dv b) r := by
  unfold val; rw [List.foldl_cons]
theorem sat_cons (M n : Nat) (b : UInt8) (r : List UInt8) : sat M n (b :: r) = sat M (min (n * 10 + dv b) M) r := by
  unfold sat; rw [List.foldl_cons]

theorem val_ge (l : List UInt8) : ∀ n, n ≤ val n l := by
  induction l with
  | nil => intro n; exact Nat.le_refl _
  | cons b r ih => intro n; rw [val_cons]; exact Nat.le_trans (by omega) (ih _)
theorem val_mono (l : List UInt8) : ∀ {n m : Nat}, n ≤ m → val n l ≤ val m l := by
  induction l with
  | nil => intro n m h; exact h
  | cons b r ih => intro n m h; rw [val_cons, val_cons]; exact ih (by omega)
theorem sat_le (M : Nat) (l : List UInt8) : ∀ n, n ≤ M → sat M n l ≤ M := by
  induction l with
  | nil => intro n h; exact h
  | cons b r ih => intro n _; rw [sat_cons]; exact ih _ (Nat.min_le_right _ _)
theorem sat_eq (M : Nat) (l : List UInt8) : ∀ n, n ≤ M → sat M n l = min (val n l) M := by
  induction l with
  | nil => intro n h; exact (Nat.min_eq_left h).symm
  | cons b r ih =>
    intro n h
    rw [sat_cons, val_cons, ih _ (Nat.min_le_right _ _)]
    generalize n * 10 + dv b = m
    by_cases g : m ≤ M
    · rw [Nat.min_eq_left g]
    · have h1 := val_ge r m
      have h2 := val_ge r M
      rw [Nat.min_eq_right (show M ≤ m by omega), Nat.min_eq_right h2, Nat.min_eq_right (show M ≤ val m r by omega)]

theorem parse_nil (n : Nat) : Lib.parseUint10 n [] = .ok n := rfl
theorem parse_cons (n : Nat) (b : UInt8) (r : List UInt8) (hb : 48 ≤ b.toNat ∧ b.toNat ≤ 57) : Lib.parseUint10 n (b :: r) =
    if 1844674407370955162 ≤ n then .range else if 18446744073709551616 ≤ n * 10 + dv b then .range else Lib.parseUint10 (n * 10 + dv b) r := by
  unfold dv; rw [Lib.parseUint10, if_pos hb]
theorem parse_val (l : List UInt8) : ∀ n, n < 18446744073709551616 → l.all isDig = true → Lib.parseUint10 n l = if val n l < 18446744073709551616 then .ok (val n l) else .range := by
  induction l with
  | nil => intro n h _; rw [parse_nil, val_nil, if_pos h]
  | cons b r ih =>
    intro n h hd
    simp only [List.all_cons, Bool.and_eq_true] at hd
    obtain ⟨hb, hr⟩ := hd
    have hb' := (isDig_iff b).1 hb
    have hge := val_ge r (n * 10 + dv b)
    rw [val_cons, parse_cons n b r hb']
    by_cases g : 1844674407370955162 ≤ n
    · rw [if_pos g, if_neg (by omega)]
    · rw [if_neg g]
      by_cases g2 : 18446744073709551616 ≤ n * 10 + dv b
      · rw [if_pos g2, if_neg (by omega)]
      · rw [if_neg g2]
        exact ih _ (by omega) hr

/-- A text without the sign ahead. -/
def digs (l : List UInt8) : List UInt8 := if l.head? = some 45 then l.tail else l
/-- A text as a number: by the document. -/
def numOf (l : List UInt8) : Int :=
  if (digs l).all isDig then
    (if val 0 (digs l) ≤ 1073741824 then (if l.head? = some 45 then -(val 0 (digs l) : Int) else (val 0 (digs l) : Int)) else 0)
  else 0
theorem numOf_lo (l : List UInt8) : -1073741824 ≤ numOf l := by unfold numOf; split <;> (try split) <;> (try split) <;> omega
theorem numOf_hi (l : List UInt8) : numOf l ≤ 1073741824 := by unfold numOf; split <;> (try split) <;> (try split) <;> omega

def digits10 : List UInt8 := [48, 49, 50, 51, 52, 53, 54, 55, 56, 57]
theorem digits10_contains : ∀ b : UInt8, digits10.contains b = isDig b := by
  intro b
  rw [Bool.eq_iff_iff, isDig_iff, List.contains_iff_mem]
  simp only [digits10, List.mem_cons, List.mem_nil_iff, or_false, ← UInt8.toNat_inj]
  simp
  omega

theorem dropWhile_nil_iff {α : Type} (p : α → Bool) (l : List α) : l.dropWhile p = [] ↔ l.all p = true := by
  induction l with
  | nil => simp
  | cons a r ih =>
    simp only [List.dropWhile_cons, List.all_cons]
    cases h : p a <;> simp [ih]
theorem trimS_nil_iff (l cs : List UInt8) : Lib.trimS l cs = [] ↔ l.all (cs.contains ·) = true := by
  unfold Lib.trimS Lib.trimLeftS Lib.trimRightS
  rw [dropWhile_nil_iff, List.all_reverse]
  constructor
  · intro h
    have hr : ∀ (m : List UInt8), (m.dropWhile (cs.contains ·)).all (cs.contains ·) = true → m.all (cs.contains ·) = true := by
      intro m
      induction m with
      | nil => simp
      | cons a r ih =>
        simp only [List.dropWhile_cons, List.all_cons]
        cases g : cs.contains a <;> simp_all
    have := hr l.reverse h
    simpa using this
  · intro h
    have : l.reverse.dropWhile (cs.contains ·) = [] := (dropWhile_nil_iff _ _).2 (by simpa using h)
    rw [this]
    rfl
theorem trim_digits (l : List UInt8) : Lib.trimS l digits10 = [] ↔ l.all isDig = true := by
  rw [trimS_nil_iff]
  have : (fun b : UInt8 => digits10.contains b) = isDig := funext digits10_contains
  rw [this]

theorem digs_prefix (l : List UInt8) : Lib.trimPrefix l [45] = digs l := by
  cases l with
  | nil => rfl
  | cons b r =>
    by_cases h : b = 45
    · subst h; simp [Lib.trimPrefix, Lib.hasPrefix, digs]
    · have h' : ¬ (45 : UInt8) = b := fun e => h e.symm
      simp [Lib.trimPrefix, Lib.hasPrefix, digs, h, h']

/-- Atoi of a text whose digits are right: the number, or that it is too great. -/
theorem atoi_digs (l : List UInt8) (h0 : digs l ≠ []) (h1 : (digs l).all isDig = true) :
    (Lib.atoiAll l = .range ∧ 1073741824 < val 0 (digs l)) ∨ (∃ v, Lib.atoiAll l = .ok v ∧ v = if l.head? = some 45 then -(val 0 (digs l) : Int) else (val 0 (digs l) : Int)) := by
  cases l with
  | nil => exact absurd rfl h0
  | cons b r =>
    by_cases hb : b = 45
    · subst hb
      have hd : digs (45 :: r) = r := by simp [digs]
      rw [hd] at h0 h1 ⊢
      have hp := parse_val r 0 (by decide) h1
      simp only [Lib.atoiAll, Lib.parseMag]
      rw [if_pos (show (UInt8.toNat 45 = 43 ∨ UInt8.toNat 45 = 45) from Or.inr rfl), if_neg h0, hp]
      by_cases g : val 0 r < 18446744073709551616
      · rw [if_pos g]
        by_cases g2 : 9223372036854775808 < val 0 r
        · left; simp [g2]; omega
        · right; refine ⟨-(val 0 r : Int), ?_, by simp⟩; simp [g2]
      · rw [if_neg g]; left; exact ⟨rfl, by omega⟩
    · have hb45 : ¬ b.toNat = 45 := fun e => hb (UInt8.toNat_inj.1 (by simpa using e))
      have hh : ¬ (b :: r).head? = some 45 := by simpa using hb
      have hd : digs (b :: r) = b :: r := by simp [digs, hb]
      rw [hd] at h1 ⊢
      have hbd : isDig b = true := by simp only [List.all_cons, Bool.and_eq_true] at h1; exact h1.1
      have hb43 : ¬ b.toNat = 43 := fun e => by have := (isDig_iff b).1 hbd; omega
      have hp := parse_val (b :: r) 0 (by decide) h1
      simp only [Lib.atoiAll, Lib.parseMag]
      rw [if_neg (show ¬ (b.toNat = 43 ∨ b.toNat = 45) by omega), if_neg (show ¬ (b :: r) = [] by simp), hp]
      by_cases g : val 0 (b :: r) < 18446744073709551616
      · rw [if_pos g]
        by_cases g2 : 9223372036854775808 ≤ val 0 (b :: r)
        · left; simp [g2, hb45]; omega
        · right; refine ⟨(val 0 (b :: r) : Int), ?_, by rw [if_neg hh]⟩; simp [g2, hb45]
      · rw [if_neg g]; left; exact ⟨rfl, by omega⟩

theorem numOf_bad (l : List UInt8) (h : digs l = [] ∨ Lib.trimS (digs l) digits10 ≠ []) : numOf l = 0 := by
  rcases h with h | h
  · unfold numOf; rw [h, val_nil]; simp
  · have : ¬ (digs l).all isDig = true := fun e => h ((trim_digits _).2 e)
    unfold numOf; rw [if_neg this]
theorem numOf_range (l : List UInt8) (h : 1073741824 < val 0 (digs l)) : numOf l = 0 := by
  unfold numOf; rw [if_neg (show ¬ val 0 (digs l) ≤ 1073741824 by omega)]; split <;> rfl
theorem numOf_ok (l : List UInt8) (h1 : (digs l).all isDig = true) (v : Int) (hv : v = if l.head? = some 45 then -(val 0 (digs l) : Int) else (val 0 (digs l) : Int)) :
    numOf l = if v = cutN v then v else 0 := by
  unfold numOf
  rw [if_pos h1, ← hv]
  generalize val 0 (digs l) = m at hv ⊢
  by_cases g : m ≤ 1073741824
  · rw [if_pos g]
    have : v = cutN v := (cutN_id (by split at hv <;> omega) (by split at hv <;> omega)).symm
    rw [if_pos this]
  · rw [if_neg g, if_neg]
    intro e
    have := cutN_eq e
    split at hv <;> omega

/-- The numeral's digits, gathered from the last one on. -/
theorem decDigits_step {n : Nat} (h : ¬ n < 10) : Lib.decDigits n = Lib.decDigits (n / 10) ++ [UInt8.ofNat (48 + n % 10)] := by
  rw [Lib.decDigits, dif_neg h]
theorem decDigits_small {n : Nat} (h : n < 10) : Lib.decDigits n = [UInt8.ofNat (48 + n)] := by
  rw [Lib.decDigits, dif_pos h]
/-- What is still to be laid ahead. -/
def ahead (n : Nat) : List UInt8 := if n < 10 then [] else Lib.decDigits (n / 10)
theorem ahead_start (n : Nat) : Lib.decDigits n = ahead n ++ [UInt8.ofNat (48 + n % 10)] := by
  unfold ahead
  by_cases h : n < 10
  · rw [if_pos h, decDigits_small h, Nat.mod_eq_of_lt h]; rfl
  · rw [if_neg h, decDigits_step h]
theorem ahead_step {n : Nat} (h : ¬ n < 10) : ahead n = ahead (n / 10) ++ [UInt8.ofNat (48 + n / 10 % 10)] := by
  rw [← ahead_start]; unfold ahead; rw [if_neg h]
theorem ahead_end {n : Nat} (h : n < 10) : ahead n = [] := by unfold ahead; rw [if_pos h]
theorem decDigits_len (n : Nat) (h : n ≤ 1073741824) : (Lib.decDigits n).length ≤ 10 := by
  have step : ∀ m k : Nat, m < 10 ^ (k + 1) → (Lib.decDigits m).length ≤ k + 1 := by
    intro m k
    induction k generalizing m with
    | zero => intro hm; rw [decDigits_small (by simpa using hm)]; simp
    | succ k ih =>
      intro hm
      by_cases g : m < 10
      · rw [decDigits_small g]; simp
      · rw [decDigits_step g]
        have := ih (m / 10) (by rw [Nat.pow_succ] at hm; omega)
        simp; omega
  exact step n 9 (by omega)
theorem itoa_len (n : Int) (h0 : -1073741824 ≤ n) (h1 : n ≤ 1073741824) : (Lib.itoa n).length ≤ 11 := by
  unfold Lib.itoa
  split
  · have := decDigits_len n.natAbs (by omega); simp; omega
  · have := decDigits_len n.toNat (by omega); omega
end Go.Proofs.YtahckodhnkloeaaGreatDoor

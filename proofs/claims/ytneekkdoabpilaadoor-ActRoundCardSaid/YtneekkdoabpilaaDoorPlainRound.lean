/- Plain law: a number there and back; acts of keys, counted. No program in sight. -/
import Derived.Test.YtneekkdoabpilaaDoorOf
import Derived.Test.YtneekkdoabpilaaDoorPlainNum
import Derived.Test.YtneekkdoabpilaaDoorPlainKeys
namespace Go.Proofs.YtneekkdoabpilaaDoor
open Go

theorem dig_dv {d : Nat} (h : d < 10) : dv (UInt8.ofNat (48 + d)) = d ∧ isDig (UInt8.ofNat (48 + d)) = true := by
  have e : (UInt8.ofNat (48 + d)).toNat = 48 + d := by rw [UInt8.toNat_ofNat']; omega
  refine ⟨by unfold dv; rw [e]; omega, ?_⟩
  rw [isDig_iff, e]; omega
theorem val_append (n : Nat) (l m : List UInt8) : val n (l ++ m) = val (val n l) m := by unfold val; rw [List.foldl_append]
theorem decDigits_spell : ∀ (k n : Nat), n ≤ k → val 0 (Lib.decDigits n) = n ∧ (Lib.decDigits n).all isDig = true := by
  intro k
  induction k with
  | zero =>
    intro n h
    obtain rfl : n = 0 := by omega
    rw [decDigits_small (by decide)]
    exact ⟨rfl, rfl⟩
  | succ k ih =>
    intro n h
    by_cases g : n < 10
    · obtain ⟨h1, h2⟩ := dig_dv g
      rw [decDigits_small g]
      refine ⟨?_, by rw [List.all_cons, h2]; rfl⟩
      rw [val_cons, val_nil, h1]; omega
    · obtain ⟨h1, h2⟩ := ih (n / 10) (by omega)
      obtain ⟨h3, h4⟩ := dig_dv (d := n % 10) (by omega)
      rw [decDigits_step g]
      refine ⟨?_, by rw [List.all_append, h2, List.all_cons, h4]; rfl⟩
      rw [val_append, h1, val_cons, val_nil, h3]; omega
theorem decDigits_head (n : Nat) : (Lib.decDigits n).head? ≠ some 45 := by
  have h := (decDigits_spell n n (Nat.le_refl _)).2
  intro e
  cases hd : Lib.decDigits n with
  | nil => rw [hd] at e; cases e
  | cons b r =>
    rw [hd] at e h
    have hb : b = 45 := by simpa using e
    subst hb
    simp only [List.all_cons, Bool.and_eq_true] at h
    exact absurd h.1 (by decide)
/-- There and back. -/
theorem numOf_itoa (n : Int) (h0 : -1073741824 ≤ n) (h1 : n ≤ 1073741824) : numOf (Lib.itoa n) = n := by
  unfold Lib.itoa
  by_cases hn : n < 0
  · rw [if_pos hn]
    obtain ⟨h2, h3⟩ := decDigits_spell n.natAbs _ (Nat.le_refl _)
    have hd : digs (45 :: Lib.decDigits n.natAbs) = Lib.decDigits n.natAbs := by simp [digs]
    unfold numOf
    rw [hd, if_pos h3, h2, if_pos (by omega), if_pos (by simp)]; omega
  · rw [if_neg hn]
    obtain ⟨h2, h3⟩ := decDigits_spell n.toNat _ (Nat.le_refl _)
    have hd : digs (Lib.decDigits n.toNat) = Lib.decDigits n.toNat := by unfold digs; rw [if_neg (decDigits_head _)]
    unfold numOf
    rw [hd, if_pos h3, h2, if_pos (by omega), if_neg (decDigits_head _)]; omega

/-- Of some keys, how many acts. -/
def manyOf (l : List Act) (ks : List Txt) : Nat := (ks.map fun k => (ofKey k l).length).sum
theorem manyOf_snoc (l : List Act) (ks : List Txt) (k : Txt) : manyOf l (ks ++ [k]) = manyOf l ks + (ofKey k l).length := by simp [manyOf]
theorem manyOf_nil (ks : List Txt) : manyOf [] ks = 0 := by
  induction ks with
  | nil => rfl
  | cons k r ih => show (ofKey k []).length + manyOf [] r = 0; rw [ih]; rfl
theorem manyOf_out (a : Act) (l : List Act) : ∀ ks : List Txt, a.key ∉ ks → manyOf (a :: l) ks = manyOf l ks := by
  intro ks
  induction ks with
  | nil => intro _; rfl
  | cons k r ih =>
    intro h
    show (ofKey k (a :: l)).length + manyOf (a :: l) r = (ofKey k l).length + manyOf l r
    rw [ih (fun e => h (List.mem_cons_of_mem _ e))]
    have : a.key ≠ k := fun e => h (by rw [e]; simp)
    simp [ofKey, this]
theorem manyOf_in (a : Act) (l : List Act) : ∀ ks : List Txt, Rising ks → a.key ∈ ks → manyOf (a :: l) ks = manyOf l ks + 1 := by
  intro ks
  induction ks with
  | nil => intro _ h; exact absurd h (by simp)
  | cons k r ih =>
    intro hr h
    obtain ⟨h1, h2⟩ := List.pairwise_cons.1 hr
    show (ofKey k (a :: l)).length + manyOf (a :: l) r = (ofKey k l).length + manyOf l r + 1
    by_cases hk : a.key = k
    · have hn : a.key ∉ r := fun e => absurd (h1 _ e) (by rw [hk]; exact txt_irrefl _)
      rw [manyOf_out a l r hn]
      have : (ofKey k (a :: l)).length = (ofKey k l).length + 1 := by simp [ofKey, hk]
      omega
    · have hm : a.key ∈ r := by
        rcases List.mem_cons.1 h with e | e
        · exact absurd e hk
        · exact e
      rw [ih h2 hm]
      have : (ofKey k (a :: l)).length = (ofKey k l).length := by simp [ofKey, hk]
      omega
theorem manyOf_all (ks : List Txt) (hr : Rising ks) : ∀ l : List Act, (∀ a ∈ l, a.key ∈ ks) → manyOf l ks = l.length := by
  intro l
  induction l with
  | nil => intro _; exact manyOf_nil ks
  | cons a r ih =>
    intro h
    rw [manyOf_in a r ks hr (h a (by simp)), ih (fun b hb => h b (by simp [hb]))]; rfl
theorem many_end (l : List Act) : manyOf l (keysOf (l.map Act.key)) = l.length := by
  obtain ⟨h1, h2⟩ := keysOf_spec (l.map Act.key)
  exact manyOf_all _ h1 l fun a ha => (h2 _).2 (List.mem_map.2 ⟨a, ha, rfl⟩)
theorem many_some {l : List Act} {i : Nat} (h : i < (keysOf (l.map Act.key)).length) : 1 ≤ (ofKey (keysOf (l.map Act.key))[i] l).length := by
  have hm := ((keysOf_spec (l.map Act.key)).2 _).1 (List.getElem_mem h)
  obtain ⟨a, ha, hk⟩ := List.mem_map.1 hm
  have : a ∈ ofKey (keysOf (l.map Act.key))[i] l := by unfold ofKey; rw [List.mem_filter]; exact ⟨ha, by simp [hk]⟩
  exact List.length_pos_of_mem this
theorem many_rise {l : List Act} {i : Nat} (h0 : 0 < i) (h : i < (keysOf (l.map Act.key)).length) : (keysOf (l.map Act.key))[i - 1] < (keysOf (l.map Act.key))[i] :=
  List.pairwise_iff_getElem.1 (keysOf_spec (l.map Act.key)).1 (i - 1) i (by omega) h (by omega)
def manyTo (l : List Act) (i : Nat) : Nat := manyOf l ((keysOf (l.map Act.key)).take i)
theorem manyTo_zero (l : List Act) : manyTo l 0 = 0 := rfl
theorem manyTo_next {l : List Act} {i : Nat} (h : i < (keysOf (l.map Act.key)).length) : manyTo l (i + 1) = manyTo l i + (ofKey (keysOf (l.map Act.key))[i] l).length := by
  unfold manyTo
  rw [List.take_succ_eq_append_getElem h, manyOf_snoc]
theorem manyTo_end (l : List Act) : manyTo l (keysOf (l.map Act.key)).length = l.length := by
  unfold manyTo; rw [List.take_of_length_le (Nat.le_refl _)]; exact many_end l
theorem manyTo_le (l : List Act) (i : Nat) : manyTo l i ≤ l.length := by
  have key : ∀ (xs ys : List Txt), manyOf l (xs ++ ys) = manyOf l xs + manyOf l ys := fun xs ys => by simp [manyOf]
  have := key ((keysOf (l.map Act.key)).take i) ((keysOf (l.map Act.key)).drop i)
  rw [List.take_append_drop, many_end] at this
  unfold manyTo; omega
/-- All of it, of keys and counts that are named. -/
theorem round_facts (l : List Act) : ∃ (ks : List Txt) (mt : Nat → Nat), keysOf (l.map Act.key) = ks ∧ ks.length ≤ l.length ∧ (∀ i (h : i < ks.length), 1 ≤ (ofKey ks[i] l).length) ∧
    (∀ i (h0 : 0 < i) (h : i < ks.length), ks[i - 1] < ks[i]) ∧ (∀ i (h : i < ks.length), mt (i + 1) = mt i + (ofKey ks[i] l).length) ∧ mt 0 = 0 ∧ mt ks.length = l.length ∧ ∀ i, mt i ≤ l.length :=
  ⟨_, manyTo l, rfl, by simpa using keysOf_len (l.map Act.key), fun _ h => many_some h, fun _ h0 h => many_rise h0 h, fun _ h => manyTo_next h, manyTo_zero l, manyTo_end l, manyTo_le l⟩
end Go.Proofs.YtneekkdoabpilaaDoor

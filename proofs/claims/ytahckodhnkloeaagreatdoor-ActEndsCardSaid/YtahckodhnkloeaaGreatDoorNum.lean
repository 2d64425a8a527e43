/- Walks: act.cut, act.Value, act.Number and the document's Value, Number: what each computes, at every world that holds the library's tables. -/
import Derived.Test.YtahckodhnkloeaaGreatDoorProg
import Derived.Test.YtahckodhnkloeaaGreatDoorPlainNum
import Derived.Test.YtahckodhnkloeaaGreatDoorShelf
import Derived.WalkKit
import Derived.WalkSpells
import Derived.WalkSmall
import Derived.WalkLawsBesides
import Derived.BigQuiet
import Derived.Deep.QuietTactic
import Derived.Handy
import Derived.Lib.Hide
import Derived.Lib.AppendIntMem
namespace Go.Proofs.YtahckodhnkloeaaGreatDoor
open Go Go.RowKit

def S (l : List UInt8) : Value := .string ⟨l.toArray⟩

/-- What the library's contracts ask of memory. -/
structure Env (w : World) : Prop where
  pow : Lib.TabIs Tryz.prog w "internal/strconv.uint64pow10" .u64 Lib.pow10Tab
  rng : ∃ tp p, w.var? Tryz.prog "strconv.ErrRange" = some #[.iface tp p]

theorem var_keeps {w w' : World} (hb : Below w.heap.size w w') {n : String} {cs : Array Value} (h : w.var? Tryz.prog n = some cs) : w'.var? Tryz.prog n = some cs := by
  unfold World.var? at *
  cases hg : Tryz.prog.globalNamed n with
  | none => simp [hg] at h
  | some g =>
    simp only [hg, Option.bind_some] at h ⊢
    have hlt : g < w.heap.size := by
      rcases Nat.lt_or_ge g w.heap.size with h' | h'
      · exact h'
      · rw [Array.getElem?_eq_none h'] at h; simp at h
    rw [hb.block g hlt]
    exact h
theorem Env.keeps {w w' : World} (h : Env w) (hb : Below w.heap.size w w') : Env w' :=
  ⟨Lib.tabBelow_of_tabIs h.pow w' hb, by obtain ⟨tp, p, hr⟩ := h.rng; exact ⟨tp, p, var_keeps hb hr⟩⟩
theorem up_trans {a b c : World} (h : Below a.heap.size a b) (k : Below b.heap.size b c) : Below a.heap.size a c := h.trans (k.mono h.size)

theorem cut_calls (n : Int) (w : World) : Calls Tryz.prog 82 #[.int .i64 n] w fun e w' => e = .returned (.int .i64 (cutN n)) ∧ w = w' := by
  rw [← cutN_minmax]
  go_enter Tryz.func82, Tryz.ntmps82
  go_wp2
  go_ret
  exact ⟨rfl, rfl⟩

theorem value_calls (n : Int) (w : World) (E : Env w) : Calls Tryz.prog 83 #[.int .i64 n] w fun e w' => e = .returned (S (Lib.itoa (cutN n))) ∧ Below w.heap.size w w' := by
  have H := Lib.hid E; clear E
  go_enter Tryz.func83, Tryz.ntmps83
  go_wp2_with fail
  refine (cut_calls n w).mono ?_
  rintro e w1 ⟨rfl, rfl⟩
  go_wp2_with fail
  have h0 := cutN_lo n
  have h1 := cutN_hi n
  refine (Tryz.strconv_Itoa (cutN n) (by omega) (by omega) w H.out.pow).mono ?_
  rintro e w1 ⟨rfl, k, os, rfl⟩
  go_wp2_with fail
  go_ret
  exact ⟨rfl, Lib.below_grow _ _ (Nat.le_refl _) _ _⟩

theorem trimPrefix_calls (s p : ByteArray) (w : World) : Calls Tryz.prog 79 #[.string s, .string p] w fun e w' => e = .returned (S (Lib.trimPrefix s.data.toList p.data.toList)) ∧ w = w' :=
  (Tryz.strings_TrimPrefix s p w).mono fun _ _ ⟨h, k⟩ => ⟨h, k.symm⟩
theorem bytes_list (l : List UInt8) : (⟨l.toArray⟩ : ByteArray).data.toList = l := rfl
theorem digs_len (l : List UInt8) : (digs l).length ≤ l.length := by unfold digs; split <;> simp
theorem trim_digits_calls (l : List UInt8) (hl : l.length ≤ 140737488351232) (w : World) : Calls Tryz.prog 80 #[.string ⟨l.toArray⟩, .string ⟨#[48, 49, 50, 51, 52, 53, 54, 55, 56, 57]⟩] w fun e w' => e = .returned (S (Lib.trimS l digits10)) ∧ Below w.heap.size w w' :=
  Tryz.strings_Trim_laid ⟨l.toArray⟩ ⟨#[48, 49, 50, 51, 52, 53, 54, 55, 56, 57]⟩ w (by show l.length ≤ _; omega) (by decide) (ascii_of_all (by decide))

/-- Atoi of a text of digits: the number and no error, or an error. -/
theorem atoi_ok_calls (s : ByteArray) (hs : s.size ≤ 140737488351232) (v : Int) (h : Lib.atoiAll s.data.toList = .ok v) (w : World) : Calls Tryz.prog 81 #[.string s] w fun e w' => e = .returned (.tuple #[.int .i64 v, .nilIface]) ∧ Below w.heap.size w w' :=
  (Tryz.strconv_Atoi_ok s (by omega) v h w).mono fun _ _ ⟨h, k⟩ => ⟨h, by
    rcases k with rfl | ⟨t, rfl⟩
    · exact Below.refl _ _
    · exact Lib.bytesWorld_below _ _ _⟩
theorem atoi_no_calls (s : ByteArray) (hs : s.size ≤ 140737488351232) (h : Lib.atoiAll s.data.toList = .range) (w : World) (E : Env w) : Calls Tryz.prog 81 #[.string s] w fun e w' => ∃ (n : Int) (p : Option Addr), e = .returned (.tuple #[.int .i64 n, .iface 276 (.pointer p)]) ∧ Below w.heap.size w w' := by
  obtain ⟨tp, p, hr⟩ := E.rng
  exact (Tryz.strconv_Atoi_range_var s (by omega) h tp p w hr).mono fun _ _ ⟨N, h, _, _, k⟩ => ⟨_, _, h, k⟩

theorem ret_int {k : IntKind} {a b : Int} (h : a = b) : Ending.returned (.int k a) = .returned (.int k b) := by rw [h]
def Num (s : ByteArray) (w : World) (e : Ending) (w' : World) : Prop := e = .returned (.int .i64 (numOf s.data.toList)) ∧ Below w.heap.size w w'

theorem number_calls (s : ByteArray) (hs : s.size ≤ 140737488351232) (w : World) (E : Env w) : Calls Tryz.prog 32 #[.string s] w (Num s w) := by
  have hdl : (digs s.data.toList).length ≤ 140737488351232 := by have := digs_len s.data.toList; have h2 : s.data.toList.length = s.size := rfl; omega
  have H := Lib.hid E; clear E
  go_enter Tryz.func32, Tryz.ntmps32
  go_wp2_with fail
  refine (trimPrefix_calls s _ w).mono ?_
  rintro e w1 ⟨rfl, rfl⟩
  rw [show Lib.trimPrefix s.data.toList (⟨#[45]⟩ : ByteArray).data.toList = digs s.data.toList from digs_prefix _]
  by_cases hd : digs s.data.toList = []
  · have H2 := Lib.hid (numOf_bad s.data.toList (.inl hd))
    rw [hd]
    clear hd
    unfold S
    go_wp2_with fail
    go_ret
    exact ⟨ret_int H2.out.symm, Below.refl _ _⟩
  · have Hat := Lib.hid (atoi_digs s.data.toList hd)
    have Hbad := Lib.hid (numOf_bad s.data.toList)
    have Hok := Lib.hid (numOf_ok s.data.toList)
    have Hran := Lib.hid (numOf_range s.data.toList)
    generalize hg : digs s.data.toList = d at hd hdl
    have Hg := Lib.hid hg; clear hg
    have hd2 : (d == []) = false := by simp [hd]
    unfold S
    go_wp2_with fail
    refine (trim_digits_calls d hdl w).mono ?_
    rintro e w1 ⟨rfl, hb⟩
    have Hb := Lib.hid hb; clear hb
    unfold S
    by_cases ht : Lib.trimS d digits10 = []
    · have hall := Lib.hid ((trim_digits d).1 ht)
      rw [ht]
      clear ht
      rw [Hg.out] at Hat Hok Hran
      go_wp2_with fail
      rcases Hat.out hall.out with ⟨h1, h2⟩ | ⟨v, h1, h2⟩
      · have hr := Lib.hid (Hran.out h2)
        clear Hat Hok Hran h2
        refine (atoi_no_calls s hs h1 w1 (H.out.keeps Hb.out)).mono ?_
        rintro e w2 ⟨n, p, rfl, hb2⟩
        have Hb2 := Lib.hid hb2; clear hb2
        go_wp2_with fail
        go_ret
        exact ⟨ret_int hr.out.symm, up_trans Hb.out Hb2.out⟩
      · have hr := Lib.hid (Hok.out hall.out v h2)
        clear Hat Hok Hran h2
        refine (atoi_ok_calls s hs v h1 w1).mono ?_
        rintro e w2 ⟨rfl, hb2⟩
        have Hb2 := Lib.hid hb2; clear hb2
        clear h1
        go_wp2_with fail
        refine (cut_calls v w2).mono ?_
        rintro e w3 ⟨rfl, rfl⟩
        by_cases hc : v = cutN v
        · have hc2 : (v != cutN v) = false := by simp [← hc]
          have Hc := Lib.hid hc; clear hc
          go_wp2_with fail
          go_ret
          exact ⟨ret_int (by rw [hr.out, if_pos Hc.out]), up_trans Hb.out Hb2.out⟩
        · have hc2 : (v != cutN v) = true := by simpa using hc
          have Hc := Lib.hid hc; clear hc
          go_wp2_with fail
          go_ret
          exact ⟨ret_int (by rw [hr.out, if_neg Hc.out]), up_trans Hb.out Hb2.out⟩
    · have H2 := Lib.hid (numOf_bad s.data.toList (.inr (by rw [Hg.out]; exact ht)))
      generalize Lib.trimS d digits10 = t at ht
      have ht2 : (t == []) = false := by simp [ht]
      go_wp2_with fail
      go_ret
      exact ⟨ret_int H2.out.symm, Hb.out⟩

/-- One byte, laid in a slice and made a text. -/
theorem conv_one (w : World) (x : Int) : (convert 106 9 (.slice (some ⟨w.heap.size, 0, none⟩) 1 1)).run Tryz.prog (w.alloc (.cells #[.int .u8 x] 5)) = .ok (.string ⟨#[UInt8.ofNat x.toNat]⟩) (w.alloc (.cells #[.int .u8 x] 5)) := by
  rw [run_convert_bytes_string _ _ _ _ _ _ _ Tryz.underlying106 Tryz.underlying5 Tryz.underlying9]
  rw [run_bytesToString _ ⟨w.heap.size, 0, none⟩ 1 1 [x] (by simp [go_sem])]
  rfl

theorem digit_byte {n : Int} (h0 : 0 ≤ n) : UInt8.ofNat (48 + n % 10).toNat = UInt8.ofNat (48 + n.toNat % 10) := by
  rw [show (48 + n % 10).toNat = 48 + n.toNat % 10 by omega]
theorem digit_start {n : Int} (h0 : 0 ≤ n) : Hid (Lib.decDigits n.toNat = ahead n.toNat ++ [UInt8.ofNat (48 + n % 10).toNat]) := by
  unfold Hid; rw [digit_byte h0, ← ahead_start]
theorem digit_step {n m : Int} {l : List UInt8} (h : 10 ≤ m) (hd : Hid (Lib.decDigits n.toNat = ahead m.toNat ++ l)) (hn : n ≤ 1073741824) :
    Hid (Lib.decDigits n.toNat = ahead (m / 10).toNat ++ (UInt8.ofNat (48 + m / 10 % 10).toNat :: l)) ∧ l.length + 1 ≤ 10 := by
  unfold Hid at *
  have e : Lib.decDigits n.toNat = ahead (m / 10).toNat ++ (UInt8.ofNat (48 + m / 10 % 10).toNat :: l) := by
    rw [hd, ahead_step (show ¬ m.toNat < 10 by omega), digit_byte (show (0 : Int) ≤ m / 10 by omega), show (m / 10).toNat = m.toNat / 10 by omega]
    simp
  refine ⟨e, ?_⟩
  have := decDigits_len n.toNat (by omega)
  rw [e] at this
  simp at this
  omega

theorem digit_end {n m : Int} {l : List UInt8} (h : m < 10) (hd : Hid (Lib.decDigits n.toNat = ahead m.toNat ++ l)) : Lib.decDigits n.toNat = l := by
  have := hd.out
  rw [ahead_end (by omega)] at this
  simpa using this
theorem bcat (a b : List UInt8) : (⟨a.toArray⟩ ++ ⟨b.toArray⟩ : ByteArray) = ⟨(a ++ b).toArray⟩ := by
  apply ByteArray.ext; simp [ByteArray.data_append]

set_option maxRecDepth 100000 in
/-- The document's Value of a number that is not negative. -/
theorem refValue_pos (n0 n : Int) (hmm : max (min n0 1073741824) (-1073741824) = n) (h0 : 0 ≤ n) (hn : n ≤ 1073741824) (w : World) : Calls Tryz.prog 72 #[.int .i64 n0] w fun e w' => e = .returned (S (Lib.decDigits n.toNat)) ∧ Below w.heap.size w w' := by
  have hcv := conv_one
  go_enter Tryz.func72, Tryz.ntmps72
  go_wp2_with fail
  go_loopw [0, 3] (fun t s wr => ∃ (m : Int) (l : List UInt8), 0 ≤ m ∧ m ≤ n ∧ t = .int .i64 m ∧ s = .string ⟨l.toArray⟩ ∧ Hid (Lib.decDigits n.toNat = ahead m.toNat ++ l) ∧ l.length ≤ 10 ∧ Below w.heap.size w wr) (fun t _ _ => (intOf t).toNat)
  case atStart => exact ⟨n, _, h0, Int.le_refl _, rfl, rfl, digit_start h0, by simp, by go_grown⟩
  case round =>
    obtain ⟨m, l, hm0, hmn, rfl, rfl, hd, hl, hb⟩ := hrel
    have Hb := Lib.hid hb; clear hb
    by_cases hlt : 10 ≤ m
    · have hstep := Lib.hid (digit_step hlt hd hn)
      go_wp2
      refine ⟨⟨m / 10, _, by omega, by omega, rfl, congrArg Value.string (bcat [_] l), hstep.out.1, hstep.out.2, ?_⟩, by simp [intOf]; omega⟩
      have := Hb.out.size
      exact Hb.out.alloc (by omega) _
    · have hfin := Lib.hid (digit_end (by omega) hd)
      go_wp2
      go_ret
      exact ⟨congrArg Ending.returned (congrArg Value.string (congrArg (fun l : List UInt8 => (⟨l.toArray⟩ : ByteArray)) hfin.out.symm)), Hb.out⟩

theorem itoa_neg {c : Int} (h : c < 0) : Lib.itoa c = [45] ++ Lib.decDigits (-c).toNat := by
  unfold Lib.itoa; rw [if_pos h, show c.natAbs = (-c).toNat by omega]; rfl
theorem itoa_pos {c : Int} (h : 0 ≤ c) : Lib.itoa c = Lib.decDigits c.toNat := by
  unfold Lib.itoa; rw [if_neg (by omega)]

set_option maxRecDepth 100000 in
theorem refValue_neg (n : Int) (h : cutN n < 0) (w : World) : Calls Tryz.prog 72 #[.int .i64 n] w fun e w' => e = .returned (S (Lib.itoa (cutN n))) ∧ Below w.heap.size w w' := by
  have hlo := cutN_lo n
  have hmm := cutN_minmax n
  have hc := Lib.hid (refValue_pos (-cutN n) (-cutN n) (by omega) (by omega) (by omega))
  have hl := decDigits_len (-cutN n).toNat (by omega)
  have hi := Lib.hid (itoa_neg h)
  generalize cutN n = c at *
  go_enter Tryz.func72, Tryz.ntmps72
  go_wp2_with fail
  refine (hc.out _).mono ?_
  rintro e w1 ⟨rfl, hb⟩
  generalize Lib.decDigits (-c).toNat = d at *
  have Hb := Lib.hid hb; clear hb
  unfold S
  go_wp2_with fail
  go_ret
  exact ⟨congrArg Ending.returned (by rw [hi.out]; exact congrArg Value.string (bcat [45] d)), Hb.out⟩

/-- The document's Value. -/
theorem refValue_calls (n : Int) (w : World) : Calls Tryz.prog 72 #[.int .i64 n] w fun e w' => e = .returned (S (Lib.itoa (cutN n))) ∧ Below w.heap.size w w' := by
  by_cases h : 0 ≤ cutN n
  · rw [itoa_pos h]
    exact refValue_pos n (cutN n) (cutN_minmax n) h (cutN_hi n) w
  · exact refValue_neg n (by omega) w

/-- The document's Number, of what stands behind the sign. -/
def refNum (l : List UInt8) : Int := if l.all isDig then (if sat 2147483648 0 l ≤ 1073741824 then (sat 2147483648 0 l : Int) else 0) else 0
theorem refNum_eq (l : List UInt8) : refNum l = if l.all isDig then (if val 0 l ≤ 1073741824 then (val 0 l : Int) else 0) else 0 := by
  unfold refNum
  rw [sat_eq 2147483648 l 0 (by omega)]
  split
  · by_cases h : val 0 l ≤ 1073741824
    · rw [if_pos h, if_pos (by omega), Nat.min_eq_left (by omega)]
    · rw [if_neg h, if_neg (by omega)]
  · rfl
theorem numOf_refNum (l : List UInt8) : numOf l = if l.head? = some 45 then -(refNum (digs l)) else refNum (digs l) := by
  unfold numOf
  rw [refNum_eq]
  split
  · split
    · rfl
    · split <;> rfl
  · split <;> rfl
theorem take_snoc' (s : ByteArray) (k : Nat) (h : k < s.size) : s.data.toList.take (k + 1) = s.data.toList.take k ++ [s[k]] := by
  rw [List.take_succ_eq_append_getElem (by simpa using h)]; rfl
theorem sat_snoc (M n : Nat) (l : List UInt8) (b : UInt8) : sat M n (l ++ [b]) = min (sat M n l * 10 + dv b) M := by
  unfold sat; rw [List.foldl_append]; rfl
theorem all_snoc (l : List UInt8) (b : UInt8) : (l ++ [b]).all isDig = (l.all isDig && isDig b) := by simp
theorem not_all (t : ByteArray) (k : Nat) (h : k < t.size) (hb : isDig t[k] = false) : refNum t.data.toList = 0 := by
  unfold refNum
  rw [if_neg]
  intro ha
  have := List.all_eq_true.1 ha t[k] (by simp [ByteArray.getElem_eq_getElem_data])
  rw [hb] at this
  cases this
/-- Round k of the document's loop over the text t. -/
def At (t : ByteArray) (k : Nat) (v : Int) : Prop := (t.data.toList.take k).all isDig = true ∧ v = (sat 2147483648 0 (t.data.toList.take k) : Int) ∧ 0 ≤ v ∧ v ≤ 2147483648
theorem At.zero (t : ByteArray) : At t 0 0 := ⟨by simp, by simp [sat], by omega, by omega⟩
theorem At.next {t : ByteArray} {k : Nat} {v : Int} (h : At t k v) (hk : k < t.size) (h0 : 48 ≤ (t[k].toNat : Int)) (h1 : (t[k].toNat : Int) ≤ 57) : At t (k + 1) (min (v * 10 + ((t[k].toNat : Int) - 48)) 2147483648) := by
  obtain ⟨a, b, c, d⟩ := h
  refine ⟨?_, ?_, by omega, by omega⟩
  · rw [take_snoc' t k hk, all_snoc, a, (isDig_iff _).2 (by omega)]; rfl
  · rw [take_snoc' t k hk, sat_snoc, b]; unfold dv; omega
theorem At.done {t : ByteArray} {v : Int} (h : At t t.size v) : refNum t.data.toList = if v ≤ 1073741824 then v else 0 := by
  obtain ⟨a, b, c, d⟩ := h
  rw [List.take_of_length_le (by simp)] at a b
  unfold refNum
  rw [if_pos a, b]
  by_cases g : sat 2147483648 0 t.data.toList ≤ 1073741824
  · rw [if_pos g, if_pos (by omega)]
  · rw [if_neg g, if_neg (by omega)]
theorem sign_yes {s : ByteArray} (h0 : 0 < s.size) (h : ((s[0].toNat : Int) == 45) = true) : s.data.toList.head? = some 45 ∧ digs s.data.toList = (s.extract 1 s.size).data.toList := by
  have e : s.data.toList.head? = some 45 := by
    have : s.data.toList.head? = some s[0] := by
      rw [List.head?_eq_getElem?]
      simp [ByteArray.getElem_eq_getElem_data]
    rw [this]
    have h45 : s[0].toNat = 45 := by have h5 : (s[0].toNat : Int) = 45 := by simpa using h
                                     omega
    exact congrArg some (UInt8.toNat_inj.1 (by simpa using h45))
  refine ⟨e, ?_⟩
  unfold digs
  rw [if_pos e]
  rw [Lib.extract_to_end]
  cases s.data.toList <;> rfl
theorem sign_no {s : ByteArray} (h : ∀ h0 : 0 < s.size, ((s[0].toNat : Int) == 45) = false) : ¬ s.data.toList.head? = some 45 ∧ digs s.data.toList = s.data.toList := by
  have e : ¬ s.data.toList.head? = some 45 := by
    intro e
    have h0 : 0 < s.size := by
      rcases Nat.eq_zero_or_pos s.size with z | z
      · have : s.data.toList = [] := by
          have h2 : s.data.toList.length = s.size := rfl
          exact List.length_eq_zero_iff.1 (by omega)
        rw [this] at e; cases e
      · exact z
    have h1 := h h0
    have : s.data.toList.head? = some s[0] := by
      rw [List.head?_eq_getElem?]
      simp [ByteArray.getElem_eq_getElem_data]
    rw [this] at e
    have e2 : s[0] = 45 := Option.some.inj e
    rw [e2] at h1
    simp at h1
  exact ⟨e, by unfold digs; rw [if_neg e]⟩

set_option maxRecDepth 100000 in
theorem refNumber_neg (s : ByteArray) (hs : s.size ≤ 140737488351232) (h0 : 0 < s.size) (h1 : ((s[0].toNat : Int) == 45) = true) (w : World) : Calls Tryz.prog 33 #[.string s] w fun e w' => e = .returned (.int .i64 (numOf s.data.toList)) ∧ w = w' := by
  have hyes := Lib.hid (sign_yes h0 h1)
  have hts : (s.extract 1 s.size).size ≤ 140737488351232 := by
    have : (s.extract 1 s.size).size ≤ s.size := by simp
    omega
  go_enter Tryz.func33, Tryz.ntmps33
  go_wp2_with fail
  generalize s.extract 1 s.size = t at *
  have hfin := Lib.hid (numOf_refNum s.data.toList)
  rw [if_pos hyes.out.1, hyes.out.2] at hfin
  clear h1
  go_loop [4, 5] (fun n i => ∃ (k : Nat) (v : Int), k ≤ t.size ∧ i = .int .i64 k ∧ n = .int .i64 v ∧ At t k v) (fun _ i => t.size - (intOf i).toNat)
  case atStart => exact ⟨0, 0, Nat.zero_le _, rfl, rfl, At.zero t⟩
  case round =>
    obtain ⟨k, v, hk, rfl, rfl, hat⟩ := hrel
    have hv0 := hat.2.2.1
    have hv1 := hat.2.2.2
    have Hat := Lib.hid hat; clear hat
    by_cases hlt : k < t.size
    · go_wp2
      · have h57 : (57 : Int) < (t[k].toNat : Int) := by omega
        go_ret
        exact ⟨ret_int (by rw [hfin.out, not_all t k hlt (by rw [Bool.eq_false_iff, Ne, isDig_iff]; omega)]; rfl), rfl⟩
      · go_round
        case rel => exact ⟨k + 1, _, by omega, by go_num, rfl, Hat.out.next hlt (by omega) (by omega)⟩
        case measure => simp [intOf]; omega
      · go_ret
        exact ⟨ret_int (by rw [hfin.out, not_all t k hlt (by rw [Bool.eq_false_iff, Ne, isDig_iff]; omega)]; rfl), rfl⟩
    · obtain rfl : k = t.size := by omega
      have hr := Lib.hid Hat.out.done
      go_wp2
      · have hgt : ¬ v ≤ 1073741824 := by omega
        go_ret
        exact ⟨ret_int (by rw [hfin.out, hr.out, if_neg hgt]; rfl), rfl⟩
      · have hle : v ≤ 1073741824 := by omega
        go_ret
        exact ⟨ret_int (by rw [hfin.out, hr.out, if_pos hle]), rfl⟩
set_option maxRecDepth 100000 in
theorem refNumber_pos (s : ByteArray) (hs : s.size ≤ 140737488351232) (h : ∀ h0 : 0 < s.size, ((s[0].toNat : Int) == 45) = false) (w : World) : Calls Tryz.prog 33 #[.string s] w fun e w' => e = .returned (.int .i64 (numOf s.data.toList)) ∧ w = w' := by
  have hno := Lib.hid (sign_no h)
  have hfin := Lib.hid (numOf_refNum s.data.toList)
  rw [if_neg hno.out.1, hno.out.2] at hfin
  rcases Nat.eq_zero_or_pos s.size with hz | h0
  · go_enter Tryz.func33, Tryz.ntmps33
    go_wp2_with fail
    go_loop [4, 5] (fun n i => ∃ (k : Nat) (v : Int), k ≤ s.size ∧ i = .int .i64 k ∧ n = .int .i64 v ∧ At s k v) (fun _ i => s.size - (intOf i).toNat)
    case atStart => exact ⟨0, 0, Nat.zero_le _, rfl, rfl, At.zero s⟩
    case round =>
      obtain ⟨k, v, hk, rfl, rfl, hat⟩ := hrel
      have hv0 := hat.2.2.1
      have hv1 := hat.2.2.2
      have Hat := Lib.hid hat; clear hat
      by_cases hlt : k < s.size
      · exact absurd hlt (by omega)
      · obtain rfl : k = s.size := by omega
        have hr := Lib.hid Hat.out.done
        go_wp2
        · have hgt : ¬ v ≤ 1073741824 := by omega
          go_ret
          exact ⟨ret_int (by rw [hfin.out, hr.out, if_neg hgt]), rfl⟩
        · have hle : v ≤ 1073741824 := by omega
          go_ret
          exact ⟨ret_int (by rw [hfin.out, hr.out, if_pos hle]), rfl⟩
  · have h1 := h h0
    go_enter Tryz.func33, Tryz.ntmps33
    go_wp2_with fail
    go_loop [4, 5] (fun n i => ∃ (k : Nat) (v : Int), k ≤ s.size ∧ i = .int .i64 k ∧ n = .int .i64 v ∧ At s k v) (fun _ i => s.size - (intOf i).toNat)
    case atStart => exact ⟨0, 0, Nat.zero_le _, rfl, rfl, At.zero s⟩
    case round =>
      obtain ⟨k, v, hk, rfl, rfl, hat⟩ := hrel
      have hv0 := hat.2.2.1
      have hv1 := hat.2.2.2
      have Hat := Lib.hid hat; clear hat
      by_cases hlt : k < s.size
      · go_wp2
        · have h57 : (57 : Int) < (s[k].toNat : Int) := by omega
          go_ret
          exact ⟨ret_int (by rw [hfin.out, not_all s k hlt (by rw [Bool.eq_false_iff, Ne, isDig_iff]; omega)]), rfl⟩
        · go_round
          case rel => exact ⟨k + 1, _, by omega, by go_num, rfl, Hat.out.next hlt (by omega) (by omega)⟩
          case measure => simp [intOf]; omega
        · go_ret
          exact ⟨ret_int (by rw [hfin.out, not_all s k hlt (by rw [Bool.eq_false_iff, Ne, isDig_iff]; omega)]), rfl⟩
      · obtain rfl : k = s.size := by omega
        have hr := Lib.hid Hat.out.done
        go_wp2
        · have hgt : ¬ v ≤ 1073741824 := by omega
          go_ret
          exact ⟨ret_int (by rw [hfin.out, hr.out, if_neg hgt]), rfl⟩
        · have hle : v ≤ 1073741824 := by omega
          go_ret
          exact ⟨ret_int (by rw [hfin.out, hr.out, if_pos hle]), rfl⟩
theorem refNumber_calls (s : ByteArray) (hs : s.size ≤ 140737488351232) (w : World) : Calls Tryz.prog 33 #[.string s] w fun e w' => e = .returned (.int .i64 (numOf s.data.toList)) ∧ w = w' := by
  by_cases hneg : ∃ h0 : 0 < s.size, ((s[0].toNat : Int) == 45) = true
  · obtain ⟨h0, h1⟩ := hneg
    exact refNumber_neg s hs h0 h1 w
  · exact refNumber_pos s hs (fun h0 => by
      cases g : ((s[0].toNat : Int) == 45)
      · rfl
      · exact absurd ⟨h0, g⟩ hneg) w
end Go.Proofs.YtahckodhnkloeaaGreatDoor

/- Walk: the law ActEnds: each kind, texts and numbers at their ends. -/
import Derived.Test.YtahckodhnkloeaaGreatDoorTells
import Derived.Test.YtahckodhnkloeaaGreatDoorValues
import Derived.StillTailTactics
import Derived.Lib.QuietBelow
namespace Go.Proofs.YtahckodhnkloeaaGreatDoor
open Go Go.RowKit Go.Sort

def endTexts : List Txt := [[], [48], [45, 48], [48, 48, 55], [45, 49, 50], [49, 48, 55, 51, 55, 52, 49, 56, 50, 52], [49, 48, 55, 51, 55, 52, 49, 56, 50, 53], [45, 49, 48, 55, 51, 55, 52, 49, 56, 50, 52], [45, 49, 48, 55, 51, 55, 52, 49, 56, 50, 53], [57, 57, 57, 57, 57, 57, 57, 57, 57, 57, 57, 57, 57, 57, 57, 57, 57, 57, 57, 57], [97, 98, 99], [97, 32, 98], [65], List.replicate 20 97, List.replicate 21 97, [43, 53], [45, 45, 53], [45]]
def endNums : List Int := [0, 1, -1, 9, 10, 1073741824, -1073741824, 1073741825, -1073741825, 4611686018427387904, -4611686018427387904]
theorem endTexts_len : endTexts.length = 18 := rfl
theorem endNums_len : endNums.length = 11 := rfl
/-- The texts and the numbers in memory. -/
structure Ends (B : Nat) (w : World) : Prop where
  t : ∀ i (h : i < endTexts.length), w.cell? ⟨B, i, none⟩ = some (S endTexts[i])
  n : ∀ i (h : i < endNums.length), w.cell? ⟨B + 1, i, none⟩ = some (.int .i64 endNums[i])
  lt : B + 1 < w.heap.size
theorem Ends.keeps {B : Nat} {w w' : World} (h : Ends B w) (hb : Below w.heap.size w w') : Ends B w' :=
  ⟨fun i hi => (hb.cell (p := ⟨B, i, none⟩) (show B < w.heap.size by have := h.lt; omega)).trans (h.t i hi), fun i hi => (hb.cell (p := ⟨B + 1, i, none⟩) h.lt).trans (h.n i hi), Nat.lt_of_lt_of_le h.lt hb.size⟩
theorem text_small : ∀ t ∈ endTexts, t.length ≤ 21 := by decide
theorem num_small : ∀ n ∈ endNums, -4611686018427387904 ≤ n ∧ n ≤ 4611686018427387904 := by decide

theorem ends_at (w : World) : Ends w.heap.size ((w.alloc (.cells (endTexts.map S).toArray 9)).alloc (.cells (endNums.map (Value.int .i64)).toArray 3)) := by
  refine ⟨fun i hi => ?_, fun i hi => ?_, by simp⟩
  · simp [hi]
  · simp [hi]
def act1 (n : Int) (t : Txt) (m : Int) : Act := ⟨n, [107], t, m⟩
def act2 (t : Txt) (m : Int) : Act := ⟨3, t, [], m⟩
/-- The two acts in memory, and the first of them alone. -/
theorem acts_two (w : World) (n m m' : Int) (t t' : Txt) :
    ActsAt (w.alloc (.cells #[.int .u8 n, .string ⟨#[107]⟩, .string ⟨t.toArray⟩, .int .i64 m, .int .u8 3, .string ⟨t'.toArray⟩, .string ⟨#[]⟩, .int .i64 m'] 51)).heap.size (w.alloc (.cells #[.int .u8 n, .string ⟨#[107]⟩, .string ⟨t.toArray⟩, .int .i64 m, .int .u8 3, .string ⟨t'.toArray⟩, .string ⟨#[]⟩, .int .i64 m'] 51)) (.slice (some ⟨w.heap.size, 0, none⟩) 1 2) [act1 n t m] ∧
    ActsAt (w.alloc (.cells #[.int .u8 n, .string ⟨#[107]⟩, .string ⟨t.toArray⟩, .int .i64 m, .int .u8 3, .string ⟨t'.toArray⟩, .string ⟨#[]⟩, .int .i64 m'] 51)).heap.size (w.alloc (.cells #[.int .u8 n, .string ⟨#[107]⟩, .string ⟨t.toArray⟩, .int .i64 m, .int .u8 3, .string ⟨t'.toArray⟩, .string ⟨#[]⟩, .int .i64 m'] 51)) (.slice (some ⟨w.heap.size, 0, none⟩) 2 2) [act1 n t m, act2 t' m'] := by
  constructor
  · refine .inr ⟨w.heap.size, 0, 2, rfl, by simp, by simp, by simp, fun i hi => ?_⟩
    match i, hi with
    | 0, _ => exact ⟨by simp [act1], by simp [act1, S], by simp [act1, S], by simp [act1]⟩
  · refine .inr ⟨w.heap.size, 0, 2, rfl, by simp, by simp, by simp, fun i hi => ?_⟩
    match i, hi with
    | 0, _ => exact ⟨by simp [act1], by simp [act1, S], by simp [act1, S], by simp [act1]⟩
    | 1, _ => exact ⟨by simp [act2], by simp [act2, S], by simp [act2, S], by simp [act2]⟩
theorem act1_ok {n m : Int} {t : Txt} (h : 0 ≤ n ∧ n < 5) (ht : t.length ≤ 21) (hm : -4611686018427387904 ≤ m ∧ m ≤ 4611686018427387904) : (act1 n t m).Ok :=
  ⟨by show 0 ≤ n; omega, by show n < 256; omega, by show ([107] : Txt).length ≤ _; simp, by show t.length ≤ _; omega, by show _ ≤ m; omega, by show m ≤ _; omega⟩
theorem act2_ok {m : Int} {t : Txt} (ht : t.length ≤ 21) (hm : -4611686018427387904 ≤ m ∧ m ≤ 4611686018427387904) : (act2 t m).Ok :=
  ⟨by show (0 : Int) ≤ 3; omega, by show (3 : Int) < 256; omega, by show t.length ≤ _; omega, by show ([] : Txt).length ≤ _; simp, by show _ ≤ m; omega, by show m ≤ _; omega⟩
def zeroAct : Act := ⟨0, [], [], 0⟩
theorem zeroAct_ok : zeroAct.Ok := ⟨by decide, by decide, by decide, by decide, by decide, by decide⟩
theorem cells_zero : ∀ (n : Nat), actCells (List.replicate n zeroAct) = (List.replicate n [Value.int .u8 0, .string ⟨#[]⟩, .string ⟨#[]⟩, .int .i64 0]).flatten := by
  intro n
  induction n with
  | zero => rfl
  | succ n ih => rw [List.replicate_succ, List.replicate_succ, List.flatten_cons, ← ih]; rfl
theorem acts_zero (w : World) : ActsAt (w.alloc (.cells (actCells (List.replicate 7 zeroAct)).toArray 51)).heap.size (w.alloc (.cells (actCells (List.replicate 7 zeroAct)).toArray 51)) (.slice (some ⟨w.heap.size, 0, none⟩) 7 7) (List.replicate 7 zeroAct) := by
  refine .inr ⟨w.heap.size, 0, 7, rfl, by simp, by simp, by simp, fun i hi => ?_⟩
  obtain ⟨h0, h1, h2, h3⟩ := actCells_at (List.replicate 7 zeroAct) i hi
  refine ⟨?_, ?_, ?_, ?_⟩
  · rw [Nat.zero_add, cell_of_row _ _ _ _ _ _ (heap_alloc_new w _)]; simpa using h0
  · rw [Nat.zero_add, cell_of_row _ _ _ _ _ _ (heap_alloc_new w _)]; simpa using h1
  · rw [Nat.zero_add, cell_of_row _ _ _ _ _ _ (heap_alloc_new w _)]; simpa using h2
  · rw [Nat.zero_add, cell_of_row _ _ _ _ _ _ (heap_alloc_new w _)]; simpa using h3
set_option maxRecDepth 100000 in
set_option maxHeartbeats 8000000 in
theorem ends_calls (w : World) (E : Env w) : Calls Tryz.prog 4 #[] w fun e w' => e = .returned (.bool true) ∧ Below w.heap.size w w' := by
  have HE := Lib.hid E; clear E
  go_enter Tryz.func4, Tryz.ntmps4
  go_wp2_with fail
  refine (awake_calls w HE.out).mono ?_
  rintro e w1 ⟨rfl, hb1⟩
  have Hb1 := Lib.hid hb1; clear hb1
  go_wp2_with fail
  go_loopw [3] (fun i wr => ∃ p : Nat, p ≤ 18 ∧ i = .int .i64 p ∧ Hid (Ends w1.heap.size wr) ∧ Hid (Below w.heap.size w wr)) (fun i _ => 18 - (intOf i).toNat)
  case atStart => exact ⟨0, Nat.zero_le _, rfl, ends_at w1, (Hb1.out.alloc Hb1.out.size _).alloc (by have := Hb1.out.size; simp; omega) _⟩
  case round =>
    obtain ⟨p, hp, rfl, He, Hb⟩ := hrel
    by_cases hlt : p < 18
    · have d1 : decide ((p : Int) < 18) = true := decide_eq_true (by omega)
      go_wp2_with fail
      go_loopw [4] (fun i wr => ∃ q : Nat, q ≤ 11 ∧ i = .int .i64 q ∧ Hid (Ends w1.heap.size wr) ∧ Hid (Below w.heap.size w wr)) (fun i _ => 11 - (intOf i).toNat)
      case atStart => exact ⟨0, Nat.zero_le _, rfl, He, Hb⟩
      case round =>
        clear He Hb
        obtain ⟨q, hq, rfl, He, Hb⟩ := hrel
        by_cases hlt2 : q < 11
        · have ct := He.out.t p hlt
          have cn := He.out.n q hlt2
          have i1 : (0 : Int) ≤ (p : Int) := by omega
          have i2 : (p : Int) < 18 := by omega
          have i3 : (0 : Int) ≤ (q : Int) := by omega
          have i4 : (q : Int) < 11 := by omega
          have ht1 := text_small _ (List.getElem_mem (l := endTexts) (n := p) hlt)
          generalize endTexts[p] = t1 at *
          generalize endNums[q] = m1 at *
          unfold S at ct
          have cT := cell_regrown ct
          have cN := cell_regrown cn
          have cV : ∀ d os, Calls Tryz.prog 35 #[.int .i64 m1, .string ⟨t1.toArray⟩] (grow (redrawn wr d) os) fun e w'' => e = .returned (.bool true) ∧ ∃ p : Regrown, w'' = grow (redrawn wr p.d) p.os := fun d os => Calls.regrown_of (values_calls m1 ⟨t1.toArray⟩ (by show t1.length ≤ _; omega) _ (HE.out.keeps (up_trans Hb.out (below_regrown wr d os))))
          go_wp2_with fail
          refine wp_region_quiet_below (by kernel_rfl) (by kernel_rfl) ?_
          repeat (quiet_step (with_reducible exact cV _ _))
          refine wpQuiet_nil ?_
          intro _ hw'
          obtain ⟨⟨dq, osq⟩, hw''⟩ := hw'
          subst hw''
          clear cV cT cN ct cn
          have hbq := below_regrown wr dq osq
          generalize grow (redrawn wr dq) osq = wr at *
          replace He := Lib.hid (He.out.keeps hbq)
          replace Hb := Lib.hid (up_trans Hb.out hbq)
          clear hbq
          go_wp2_with fail
          go_loopw [5] (fun i wr => ∃ n : Nat, n ≤ 5 ∧ i = .int .i64 n ∧ Hid (Ends w1.heap.size wr) ∧ Hid (Below w.heap.size w wr)) (fun i _ => 5 - (intOf i).toNat)
          case atStart => exact ⟨0, Nat.zero_le _, rfl, He, Hb⟩
          case round =>
            clear He Hb
            obtain ⟨n, hn, rfl, He, Hb⟩ := hrel
            by_cases hlt3 : n < 5
            · have i5 : (0 : Int) ≤ (n : Int) := by omega
              have i6 : (n : Int) < 5 := by omega
              obtain ⟨r1, hr1⟩ : ∃ r1 : Nat, (p + q) % 18 = r1 := ⟨_, rfl⟩
              obtain ⟨r2, hr2⟩ : ∃ r2 : Nat, (q + 3) % 11 = r2 := ⟨_, rfl⟩
              obtain ⟨r3, hr3⟩ : ∃ r3 : Nat, (q + n) % 11 = r3 := ⟨_, rfl⟩
              have r1l : r1 < 18 := by omega
              have r2l : r2 < 11 := by omega
              have r3l : r3 < 11 := by omega
              have ct := He.out.t p hlt
              have cn := He.out.n q hlt2
              have ct1 := He.out.t r1 r1l
              have cn2 := He.out.n r2 r2l
              have cn3 := He.out.n r3 r3l
              have ht1 := text_small _ (List.getElem_mem (l := endTexts) (n := p) hlt)
              have ht2 := text_small _ (List.getElem_mem (l := endTexts) (n := r1) r1l)
              have hm1 := num_small _ (List.getElem_mem (l := endNums) (n := q) hlt2)
              have hm2 := num_small _ (List.getElem_mem (l := endNums) (n := r2) r2l)
              generalize endTexts[p] = t1 at *
              generalize endNums[q] = m1 at *
              generalize endTexts[r1] = t2 at *
              generalize endNums[r2] = m2 at *
              generalize endNums[r3] = m3 at *
              unfold S at ct ct1
              have e1 : IntKind.i64.wrap ((p : Int) + (q : Int)) = (p : Int) + (q : Int) := IntWalk.i64_in _ (by omega)
              have e2 : IntKind.i64.wrap ((q : Int) + 3) = (q : Int) + 3 := IntWalk.i64_in _ (by omega)
              have e3 : ((p : Int) + (q : Int)).tmod 18 = (r1 : Int) := by rw [Int.tmod_eq_emod_of_nonneg (by omega)]; omega
              have e4 : ((q : Int) + 3).tmod 11 = (r2 : Int) := by rw [Int.tmod_eq_emod_of_nonneg (by omega)]; omega
              have j1 : (0 : Int) ≤ (r1 : Int) := by omega
              have j2 : (r1 : Int) < 18 := by omega
              have j3 : (0 : Int) ≤ (r2 : Int) := by omega
              have j4 : (r2 : Int) < 11 := by omega
              go_wp2_with fail
              have e5 : IntKind.u8.wrap (n : Int) = (n : Int) := by unfold IntKind.wrap; simp [IntKind.signed, IntKind.bits]; omega
              go_still_tail 29, (by kernel_rfl)
              change wpList _ _ _ _ _ wr.drew
              have hbd := Lib.hid (up_trans Hb.out ((Below.refl wr.heap.size wr).drew))
              have hed := Lib.hid (He.out.keeps ((Below.refl wr.heap.size wr).drew))
              have ct' := Lib.hid (show wr.drew.cell? ⟨w1.heap.size, p, none⟩ = _ from ct)
              have cn' := Lib.hid (show wr.drew.cell? ⟨w1.heap.size + 1, q, none⟩ = _ from cn)
              have cn3' := Lib.hid (show wr.drew.cell? ⟨w1.heap.size + 1, r3, none⟩ = _ from cn3)
              clear He Hb ct cn ct1 cn2 cn3
              generalize wr.drew = wr at *
              go_wp2_with fail
              obtain ⟨hA1, hA2⟩ := acts_two wr n m1 m2 t2 t1
              have HA1 := Lib.hid hA1
              have HA2 := Lib.hid hA2
              have hba : Below wr.heap.size wr (wr.alloc (.cells #[.int .u8 n, .string ⟨#[107]⟩, .string ⟨t2.toArray⟩, .int .i64 m1, .int .u8 3, .string ⟨t1.toArray⟩, .string ⟨#[]⟩, .int .i64 m2] 51)) := (Below.refl _ _).alloc (Nat.le_refl _) _
              have hlt0 := hed.out.lt
              replace ct' := Lib.hid ((hba.cell (p := ⟨w1.heap.size, p, none⟩) (by show w1.heap.size < _; omega)).trans ct'.out)
              replace cn' := Lib.hid ((hba.cell (p := ⟨w1.heap.size + 1, q, none⟩) (by show w1.heap.size + 1 < _; omega)).trans cn'.out)
              replace cn3' := Lib.hid ((hba.cell (p := ⟨w1.heap.size + 1, r3, none⟩) (by show w1.heap.size + 1 < _; omega)).trans cn3'.out)
              replace hed := Lib.hid (hed.out.keeps hba)
              replace hbd := Lib.hid (up_trans hbd.out hba)
              clear hA1 hA2 hba e1 e2 e3 e4 e5
              obtain ⟨B, hB⟩ : ∃ B, wr.heap.size = B := ⟨_, rfl⟩
              generalize wr.alloc (.cells #[.int .u8 n, .string ⟨#[107]⟩, .string ⟨t2.toArray⟩, .int .i64 m1, .int .u8 3, .string ⟨t1.toArray⟩, .string ⟨#[]⟩, .int .i64 m2] 51) = wz at *
              rw [hB] at HA1 HA2 ⊢
              clear hB
              have ok1 := act1_ok (n := n) (t := t2) (m := m1) ⟨by omega, by omega⟩ ht2 hm1
              have ok2 := act2_ok (t := t1) (m := m2) ht1 hm2
              have cT := cell_regrown ct'.out
              have cN := cell_regrown cn'.out
              have cK := cell_regrown cn3'.out
              clear hlt0 ct' cn' cn3'
              have ok12 : ∀ a ∈ [act1 n t2 m1, act2 t1 m2], a.Ok := by
                simp only [List.mem_cons, List.not_mem_nil, or_false]
                rintro a (rfl | rfl) <;> assumption
              have ok11 : ∀ a ∈ [act1 n t2 m1], a.Ok := fun a ha => ok12 a (List.mem_cons.2 (Or.inl (by simpa using ha)))
              have cA1 : ∀ d os (is : Bool) (c1 n1 c2 n2 : Int), Calls Tryz.prog 3 #[.slice (some ⟨B, 0, none⟩) 1 2, .bool is, .string ⟨t1.toArray⟩, .string ⟨#[107]⟩, .agg #[.int .i64 c1, .int .i64 n1], .agg #[.int .i64 c2, .int .i64 n2]] (grow (redrawn wz d) os) fun e w'' => e = .returned (.bool true) ∧ ∃ p : Regrown, w'' = grow (redrawn wz p.d) p.os := fun d os is c1 n1 c2 n2 =>
                Calls.regrown_of (tells_calls [act1 n t2 m1] (by simp) ok11 _ is ⟨t1.toArray⟩ ⟨#[107]⟩ (by show t1.length ≤ _; omega) (by decide) c1 n1 c2 n2 _ (HE.out.keeps (up_trans hbd.out (below_regrown wz d os))) (acts_up HA1.out (below_regrown wz d os)))
              have cA2 : ∀ d os (is : Bool) (c1 n1 c2 n2 : Int), Calls Tryz.prog 3 #[.slice (some ⟨B, 0, none⟩) 2 2, .bool is, .string ⟨t1.toArray⟩, .string ⟨#[107]⟩, .agg #[.int .i64 c1, .int .i64 n1], .agg #[.int .i64 c2, .int .i64 n2]] (grow (redrawn wz d) os) fun e w'' => e = .returned (.bool true) ∧ ∃ p : Regrown, w'' = grow (redrawn wz p.d) p.os := fun d os is c1 n1 c2 n2 =>
                Calls.regrown_of (tells_calls [act1 n t2 m1, act2 t1 m2] (by simp) ok12 _ is ⟨t1.toArray⟩ ⟨#[107]⟩ (by show t1.length ≤ _; omega) (by decide) c1 n1 c2 n2 _ (HE.out.keeps (up_trans hbd.out (below_regrown wz d os))) (acts_up HA2.out (below_regrown wz d os)))
              have HcA1 := Lib.hid cA1
              have HcA2 := Lib.hid cA2
              clear cA1 cA2 ok1 ok2 ok11 ok12 HA1 HA2
              have hcut : ∀ W : World, (Instr.slice 22 (.slice (some ⟨B, 0, none⟩) 2 2) none (some (.int .i64 1)) none).run Tryz.prog W = .ok (.slice (some ⟨B, 0, none⟩) 1 2) W := by
                obtain ⟨i0, hi, _, _, _⟩ := info_parts infoAct
                exact cut_head 22 51 Tryz.underlying22 hi (some ⟨B, 0, none⟩) 2 2 1 (by omega) (by omega)
              have e6 : IntKind.i64.wrap ((q : Int) + (n : Int)) = (q : Int) + (n : Int) := IntWalk.i64_in _ (by omega)
              have e7 : ((q : Int) + (n : Int)).tmod 11 = (r3 : Int) := by rw [Int.tmod_eq_emod_of_nonneg (by omega)]; omega
              have j5 : (0 : Int) ≤ (r3 : Int) := by omega
              have j6 : (r3 : Int) < 11 := by omega
              refine wp_region_quiet_below (by kernel_rfl) (by kernel_rfl) ?_
              repeat (quiet_step (first | with_reducible exact HcA1.out _ _ _ _ _ _ _ | with_reducible exact HcA2.out _ _ _ _ _ _ _))
              refine wpQuiet_nil ?_
              intro _ hw'
              obtain ⟨⟨dq, osq⟩, hw''⟩ := hw'
              subst hw''
              have hbq := below_regrown wz dq osq
              generalize grow (redrawn wz dq) osq = wy at *
              replace hed := Lib.hid (hed.out.keeps hbq)
              replace hbd := Lib.hid (up_trans hbd.out hbq)
              clear hbq HcA1 HcA2 hcut cT cN cK e6 e7
              go_wp2_with fail
              exact ⟨⟨n + 1, by omega, by go_num, hed.out, hbd.out⟩, by simp [intOf]; omega⟩
            · have h5 : (5 : Int) ≤ (n : Int) := by omega
              go_wp2_with fail
              first
                | exact ⟨⟨q + 1, by omega, by go_num, He.out, Hb.out⟩, by simp [intOf]; omega⟩
                | (refine ⟨?_, by simp [intOf]; omega⟩
                   repeat apply Exists.intro
                   exact ⟨⟨q + 1, by omega, rfl, He.out, Hb.out⟩, rfl⟩)
        · obtain rfl : q = 11 := by omega
          go_wp2_with fail
          exact ⟨⟨p + 1, by omega, by go_num, He.out, Hb.out⟩, by simp [intOf]; omega⟩
    · obtain rfl : p = 18 := by omega
      go_wp2_with fail
      refine (tells_calls [] (by simp) (by simp) (.slice none 0 0) true ⟨#[53]⟩ ⟨#[]⟩ (by decide) (by decide) 0 0 0 0 _ (HE.out.keeps Hb.out) (.inl ⟨none, rfl, rfl⟩)).mono ?_
      rintro e w5 ⟨rfl, hb5⟩
      have Hb5 := Lib.hid (up_trans Hb.out hb5)
      clear hb5 Hb He
      have hmk : ∀ W : World, (Instr.makeSlice 22 (.int .i64 7) (.int .i64 7)).run Tryz.prog W = .ok (.slice (some ⟨W.heap.size, 0, none⟩) 7 7) (W.alloc (.cells (actCells (List.replicate 7 zeroAct)).toArray 51)) := fun W => by kernel_rfl
      have HAz := Lib.hid (acts_zero w5)
      have hbz := Lib.hid (up_trans Hb5.out ((Below.refl _ _).alloc (Nat.le_refl w5.heap.size) (.cells (actCells (List.replicate 7 zeroAct)).toArray 51)))
      go_wp2_with fail
      refine (tells_calls (List.replicate 7 zeroAct) (by simp) (fun a ha => by rw [List.eq_of_mem_replicate ha]; exact zeroAct_ok) _ true ⟨#[53]⟩ ⟨#[]⟩ (by decide) (by decide) 0 0 0 0 _ (HE.out.keeps hbz.out) HAz.out).mono ?_
      rintro e w6 ⟨rfl, hb6⟩
      go_wp2_with fail
      go_ret
      exact ⟨rfl, up_trans hbz.out hb6⟩
end Go.Proofs.YtahckodhnkloeaaGreatDoor

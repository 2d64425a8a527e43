/- Walks: LentActs: acts in a list with marks behind its end. -/
import Derived.Test.YtahckodhnkloeaaGreatDoorMark
import Derived.Test.YtahckodhnkloeaaGreatDoorKit
import Derived.Test.YtahckodhnkloeaaGreatDoorAppend
namespace Go.Proofs.YtahckodhnkloeaaGreatDoor
open Go Go.RowKit

/-- The marks behind a list. -/
def marks (m : Nat) : List Act := (List.range m).map fun i => markA 1 (i : Nat)
theorem marks_len (m : Nat) : (marks m).length = m := by simp [marks]
theorem marks_succ (m : Nat) : marks (m + 1) = marks m ++ [markA 1 (m : Nat)] := by simp [marks, List.range_succ]

theorem actCells_at (l : List Act) : ∀ i (h : i < l.length), (actCells l)[i * 4]? = some (.int .u8 l[i].kind) ∧ (actCells l)[i * 4 + 1]? = some (S l[i].key) ∧ (actCells l)[i * 4 + 2]? = some (S l[i].value) ∧ (actCells l)[i * 4 + 3]? = some (.int .i64 l[i].num) := by
  induction l with
  | nil => intro i h; simp at h
  | cons a r ih =>
    intro i h
    have e : actCells (a :: r) = .int .u8 a.kind :: S a.key :: S a.value :: .int .i64 a.num :: actCells r := rfl
    rw [e]
    cases i with
    | zero => exact ⟨rfl, rfl, rfl, rfl⟩
    | succ j =>
      have := ih j (by simpa using h)
      have e2 : (j + 1) * 4 = j * 4 + 1 + 1 + 1 + 1 := by omega
      rw [e2]
      simpa using this
theorem actCells_one (l : List Act) : ∀ u ∈ actCells l, u.oneCell' = true := by
  intro u hu
  unfold actCells at hu
  rw [List.mem_flatMap] at hu
  obtain ⟨r, _, hr⟩ := hu
  unfold Act.cells S at hr
  simp only [List.mem_cons, List.not_mem_nil, or_false] at hr
  rcases hr with rfl | rfl | rfl | rfl <;> rfl
/-- The cells of acts in memory. -/
theorem acts_cells {w : World} {b off : Nat} {l : List Act} (h : ∀ i (h : i < l.length), ActAt w b (off + i * 4) l[i]) (j : Nat) (u : Value) (hu : (actCells l)[j]? = some u) : w.cell? ((⟨b, off, none⟩ : Addr).add j) = some u := by
  have hj : j < (actCells l).length := (List.getElem?_eq_some_iff.1 hu).1
  rw [actCells_len] at hj
  have hi : j / 4 < l.length := by omega
  have ha := h (j / 4) hi
  obtain ⟨h0, h1, h2, h3⟩ := actCells_at l (j / 4) hi
  have hadd : (⟨b, off, none⟩ : Addr).add j = ⟨b, off + j, none⟩ := by unfold Addr.add; split <;> simp_all
  rw [hadd]
  have hm : j % 4 < 4 := Nat.mod_lt _ (by decide)
  have hd : j = j / 4 * 4 + j % 4 := by omega
  rcases (by omega : j % 4 = 0 ∨ j % 4 = 1 ∨ j % 4 = 2 ∨ j % 4 = 3) with e | e | e | e
  · rw [show j = j / 4 * 4 by omega] at hu
    rw [h0] at hu; cases hu
    rw [show off + j = off + j / 4 * 4 by omega]; exact ha.c0
  · rw [show j = j / 4 * 4 + 1 by omega] at hu
    rw [h1] at hu; cases hu
    rw [show off + j = off + j / 4 * 4 + 1 by omega]; exact ha.c1
  · rw [show j = j / 4 * 4 + 2 by omega] at hu
    rw [h2] at hu; cases hu
    rw [show off + j = off + j / 4 * 4 + 2 by omega]; exact ha.c2
  · rw [show j = j / 4 * 4 + 3 by omega] at hu
    rw [h3] at hu; cases hu
    rw [show off + j = off + j / 4 * 4 + 3 by omega]; exact ha.c3

/-- Acts, wherever they lie, appended to a row of the call's own. -/
theorem append_acts {w : World} {ops : Array Oper} {rest : List Oper} {o : Oper} {a : Go.Act} {Q : Exit → Go.Act → World → Prop} (hgd : o.guard = none) (s x : Operand)
    (ho : o.op = .call { callee := .builtin .append, args := #[s, x], argTypes := #[22, 22] })
    (base : Nat) (v : Value) (n : Nat) (xs : List Value) (hs : a.eval s = v) (hown : w.ownsRow base 51 4 v n xs)
    (u : Value) (l : List Act) (hx : a.eval x = u) (hu : ActsAt w.heap.size w u l) (hn : n ≤ 1000000) (hm : l.length ≤ 1000000) (hbase : base ≤ w.heap.size)
    (h : ∀ v' w', w'.ownsRow base 51 4 v' (n + l.length) (xs ++ actCells l) → w.grownBy w' v.ownBlock → wpList Tryz.prog ops Q rest (a.put o.dst v') w') : wpList Tryz.prog ops Q (o :: rest) a w := by
  obtain ⟨i0, hi, hz0, hz1, hz2⟩ := info_parts infoAct
  rcases hu with ⟨ad, rfl, rfl⟩ | ⟨b, off, cap, rfl, _, _, _, hc⟩
  · cases ad with
    | none =>
      refine wpList_append_own_none hgd s x 22 ho base 51 i0 4 Tryz.underlying22 hi v n xs hs hown hx ?_
      exact h v w (by simpa [actCells] using hown) ⟨rfl, rfl, rfl, Nat.le_refl _, fun _ _ _ => rfl⟩
    | some ad =>
      exact wpList_append_own w hgd s x 22 ho base 51 i0 (.agg #[.int .u8 0, .string ⟨#[]⟩, .string ⟨#[]⟩, .int .i64 0]) 4 48 Tryz.underlying22 hi hz0 hz1 hz2 rfl (by decide) v n xs hs hown ad 0 0 [] hx rfl (fun j u hj => by simp at hj) (fun u hu => by simp at hu) (by unfold maxLen; omega) (by omega) hbase fun v' w' h2 h3 _ => h v' w' h2 h3
  · exact wpList_append_own w hgd s x 22 ho base 51 i0 (.agg #[.int .u8 0, .string ⟨#[]⟩, .string ⟨#[]⟩, .int .i64 0]) 4 48 Tryz.underlying22 hi hz0 hz1 hz2 rfl (by decide) v n xs hs hown ⟨b, off, none⟩ l.length cap (actCells l) hx (actCells_len l) (fun j u hj => acts_cells hc j u hj) (actCells_one l) (by unfold maxLen; omega) (by omega) hbase fun v' w' h2 h3 _ => h v' w' h2 h3

theorem own_keeps {w w' : World} {base : Nat} {e : TypeId} {size : Nat} {v : Value} {n : Nat} {xs : List Value} (h : w.ownsRow base e size v n xs) (hb : Below w.heap.size w w') : w'.ownsRow base e size v n xs := by
  refine ⟨h.1, ?_⟩
  rcases h.2 with h | ⟨g, cap, cur, hv, h1, hg, r⟩
  · exact .inl h
  · exact .inr ⟨g, cap, cur, hv, h1, by rw [hb.block g (Array.getElem?_eq_some_iff.1 hg).1]; exact hg, r⟩
/-- What LentActs leaves. -/
def Lent (l : List Act) (w : World) (e : Ending) (w' : World) : Prop :=
  ∃ g cap, e = .returned (.slice (some ⟨g, 0, none⟩) l.length cap) ∧ w'.ownsRow w.heap.size 51 4 (.slice (some ⟨g, 0, none⟩) (l.length + 12) cap) (l.length + 12) (actCells (l ++ marks 12)) ∧ Below w.heap.size w w'
theorem lent_snoc {base : Nat} {w' : World} {v' : Value} {l : List Act} {k n : Nat} (hn : n = l.length + k + 1) (h : w'.ownsRow base 51 4 v' n (actCells (l ++ marks k) ++ Act.cells (markA 1 (k : Nat)))) :
    w'.ownsRow base 51 4 v' (l.length + (k + 1)) (actCells (l ++ marks (k + 1))) := by
  subst hn
  rw [marks_succ, ← List.append_assoc, actCells_snoc, ← Nat.add_assoc]; exact h
theorem cut_back (W : World) (a : Addr) (n m c : Nat) (h : n ≤ c) : (Instr.slice 22 (.slice (some a) m c) none (some (.int .i64 n)) none).run Tryz.prog W = .ok (.slice (some a) n c) W := by
  rw [run_slice_h W 22 _ _ _ (by kernel_rfl : Tryz.prog.underlying 22 = some (.slice (Tryz.prog.elem 22))) .i64 n (by omega) (by omega), (by kernel_rfl : (sizeOf (Tryz.prog.elem 22)).run Tryz.prog W = .ok 4 W)]
  simp only [Result.andThen, sliced, Int.toNat_natCast, Nat.zero_mul, Nat.sub_zero, Option.map_some]
  have : a.add 0 = a := by unfold Addr.add; simp
  rw [this]
  split <;> rfl

set_option maxRecDepth 100000 in
set_option maxHeartbeats 2000000 in
theorem lent_calls (l : List Act) (hl : l.length ≤ 900000) (v : Value) (w : World) (h : ActsAt w.heap.size w v l) :
    Calls Tryz.prog 15 #[v] w (Lent l w) := by
  obtain ⟨i0, hi, hz0, hz1, hz2⟩ := info_parts infoAct
  have HA := Lib.hid h
  obtain ⟨ao, cap, rfl, hlc, hcap, hc⟩ := acts_slice h
  clear h hc
  go_enter Tryz.func15, Tryz.ntmps15
  go_wp2_with (first
    | (refine wpList_make_own _ rfl _ _ 22 rfl w.heap.size 51 i0 (.agg #[.int .u8 0, .string ⟨#[]⟩, .string ⟨#[]⟩, .int .i64 0]) 4 Tryz.underlying22 hi hz0 hz1 .i64 .i64 _ (l.length + 12) rfl rfl ?m1 ?m2 ?m3 (Nat.le_refl _) ?_))
  case m1 => simp
  case m2 => rw [hz2]; omega
  case m3 => unfold maxLen; omega
  intro w1 hown1 hgrow1
  have hb1 : Below w.heap.size w w1 := (Below.refl w.heap.size w).grown hgrow1 (Nat.le_refl _) (fun k hk => by cases hk)
  go_wp2_with (first
    | (at_builtin; refine append_acts rfl (.tmp 9) (.tmp 10) rfl w.heap.size _ 0 [] rfl hown1 _ l rfl ((HA.out.keeps hb1).mono hb1.size) (by omega) (by omega) hb1.size ?_))
  intro v2 w2 hown2 hgrow2
  have hb2 : Below w.heap.size w w2 := hb1.grown hgrow2 hb1.size (fun k hk => (hown1.lt k hk).1)
  have Hown2 := Lib.hid (show w2.ownsRow w.heap.size 51 4 v2 (l.length + 0) (actCells (l ++ marks 0)) by simpa [marks] using hown2)
  have Hb2 := Lib.hid hb2
  obtain ⟨a2, n2, c2, rfl⟩ := owns_slice hown2
  clear hown1 hgrow1 hb1 hown2 hgrow2 hb2 HA
  go_wp2_with fail
  go_loopw [3, 4] (fun o i wr => ∃ k : Nat, k ≤ 12 ∧ i = .int .i64 k ∧ Hid (wr.ownsRow w.heap.size 51 4 o (l.length + k) (actCells (l ++ marks k))) ∧ (∃ a n c, o = .slice a n c) ∧ Hid (Below w.heap.size w wr)) (fun _ i _ => 12 - (intOf i).toNat)
  case atStart => exact ⟨0, Nat.zero_le _, rfl, Hown2, ⟨_, _, _, rfl⟩, Hb2⟩
  case round =>
    obtain ⟨k, hk, rfl, hown, ⟨oa, on, oc, rfl⟩, hb⟩ := hrel
    by_cases hlt : k < 12
    · have hsn := Lib.hid (fun w' v' n (hn : n = l.length + k + 1) ho => @lent_snoc w.heap.size w' v' l k n hn ho)
      generalize actCells (l ++ marks k) = xs at *
      go_wp2_with fail
      refine (markAct_calls 1 k wr).mono ?_
      rintro e w3 ⟨rfl, hb3⟩
      have Hown3 := Lib.hid (own_keeps hown.out hb3)
      have Hb3 := Lib.hid (hb.out.trans (hb3.mono hb.out.size))
      have hsz := Hb3.out.size
      clear hown hb hb3
      unfold Act.agg markA
      obtain ⟨t, ht⟩ : ∃ t, markT 1 k = t := ⟨_, rfl⟩
      simp only [ht]
      have hsn2 := Lib.hid (fun w' v' n (hn : n = l.length + k + 1) ho => hsn.out w' v' n hn (show w'.ownsRow w.heap.size 51 4 v' n (xs ++ Act.cells (markA 1 (k : Nat))) by unfold markA; rw [ht]; exact ho))
      clear hsn ht
      unfold Act.cells S at hsn2
      unfold S
      simp only at hsn2
      go_wp2_with (first
        | (at_builtin; refine wpList_append_own _ rfl _ _ 22 rfl w.heap.size 51 i0 (.agg #[.int .u8 0, .string ⟨#[]⟩, .string ⟨#[]⟩, .int .i64 0]) 4 48 Tryz.underlying22 hi hz0 hz1 hz2 rfl (by decide) _ (l.length + k) xs rfl (Hown3.out.alloc _) ⟨w3.heap.size, 0, none⟩ 1 1 [.int .u8 0, .string ⟨t.toArray⟩, .string ⟨#[]⟩, .int .i64 0] rfl rfl ?c1 ?c2 ?c3 ?c4 ?c5 ?_))
      try case c1 =>
        intro j u hj
        match j, hj with
        | 0, hj => simp at hj; subst hj; simp [Addr.add]
        | 1, hj => simp at hj; subst hj; simp [Addr.add]
        | 2, hj => simp at hj; subst hj; simp [Addr.add]
        | 3, hj => simp at hj; subst hj; simp [Addr.add]
      try case c2 => first | exact ⟨rfl, rfl, rfl, rfl⟩ | (intro u hu; simp only [List.mem_cons, List.not_mem_nil, or_false] at hu; rcases hu with rfl | rfl | rfl | rfl <;> rfl)
      try case c3 => unfold maxLen; omega
      try case c4 => omega
      try case c5 => first | omega | (simp; omega)
      intro v' w4 hown4 hgrow _
      have hb4 : Below w.heap.size w w4 := (Hb3.out.alloc hsz _).grown hgrow (by simp; omega) (fun k hk => (Hown3.out.lt k hk).1)
      have Hown4 := Lib.hid (hsn2.out w4 v' _ rfl hown4)
      have Hb4 := Lib.hid hb4
      obtain ⟨a1, n1, c1', rfl⟩ := owns_slice hown4
      clear hown4 hgrow hb4 Hown3 Hb3 hsn2
      go_wp2_with fail
      exact ⟨⟨k + 1, by omega, by go_num, Hown4.out, ⟨_, _, _, rfl⟩, Hb4.out⟩, by simp [intOf]; omega⟩
    · obtain rfl : k = 12 := by omega
      rcases hown.out.2 with ⟨_, h0⟩ | ⟨g, gcap, cur, hv, hbase, hg, h1, h2, h3, h4⟩
      · omega
      · obtain ⟨e1, e2, e3⟩ := Value.slice.inj hv
        replace e1 := e1.symm
        replace e2 := e2.symm
        replace e3 := e3.symm
        subst e1 e2 e3
        have Hown := Lib.hid hown.out
        have hcut := fun W => cut_back W ⟨g, 0, none⟩ l.length (l.length + 12) gcap (by omega)
        clear hown hv hg h3 h4
        go_wp2_with fail
        go_ret
        exact ⟨g, gcap, rfl, Hown.out, hb.out⟩
end Go.Proofs.YtahckodhnkloeaaGreatDoor

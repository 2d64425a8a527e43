/- Walk: act.Do: what acts of one key tell and leave. -/
import Derived.Test.YtahckodhnkloeaaGreatDoorPlace
namespace Go.Proofs.YtahckodhnkloeaaGreatDoor
open Go Go.RowKit
open Go.ChangeMaps (setBlock)

/-- Where acts are done: what was told, whether anything stands there, whether anything was put, what. -/
structure St where
  reads : List Rd
  is : Bool
  put : Bool
  value : List UInt8
def doOne (s : St) (a : Act) : St :=
  if a.kind = 1 then ⟨s.reads ++ [⟨a.key, s.is, s.value⟩], s.is, s.put, s.value⟩
  else if a.kind = 2 then ⟨s.reads, true, true, a.value⟩
  else if a.kind = 3 then ⟨s.reads ++ [⟨a.key, s.is, s.value⟩], true, true, addV s.value a.num⟩
  else s
def doAll (s : St) (l : List Act) : St := l.foldl doOne s
def begun (is : Bool) (value : List UInt8) : St := ⟨[], is, false, if is then value else []⟩
theorem doAll_snoc (s : St) (l : List Act) (a : Act) : doAll s (l ++ [a]) = doOne (doAll s l) a := by simp [doAll]
theorem doAll_take (s : St) (l : List Act) (k : Nat) (h : k < l.length) : doAll s (l.take (k + 1)) = doOne (doAll s (l.take k)) l[k] := by
  rw [List.take_succ_eq_append_getElem h, doAll_snoc]

theorem doOne_reads (s : St) (a : Act) : (doOne s a).reads.length ≤ s.reads.length + 1 := by
  unfold doOne; split
  · simp
  · split
    · simp
    · split <;> simp
theorem doOne_value (s : St) (a : Act) (M : Nat) (hM : 11 ≤ M) (h : s.value.length ≤ M) (ha : a.value.length ≤ M) : (doOne s a).value.length ≤ M := by
  unfold doOne; split
  · exact h
  · split
    · exact ha
    · split
      · exact Nat.le_trans (addV_len _ _) hM
      · exact h
theorem doAll_bounds (M : Nat) (hM : 11 ≤ M) (l : List Act) : ∀ (s : St), s.value.length ≤ M → (∀ a ∈ l, a.value.length ≤ M) → (doAll s l).reads.length ≤ s.reads.length + l.length ∧ (doAll s l).value.length ≤ M := by
  induction l with
  | nil => intro s h _; exact ⟨Nat.le_refl _, h⟩
  | cons a r ih =>
    intro s h hl
    have h1 := doOne_reads s a
    have := ih (doOne s a) (doOne_value s a M hM h (hl a (by simp))) (fun b hb => hl b (by simp [hb]))
    refine ⟨?_, this.2⟩
    have h2 := this.1
    show (doAll (doOne s a) r).reads.length ≤ _
    simp only [List.length_cons]
    omega

theorem acts_slice {w : World} {v : Value} {l : List Act} (h : ActsAt w.heap.size w v l) : ∃ ao cap, v = .slice ao l.length cap ∧ l.length ≤ cap ∧ cap ≤ 9223372036854775807 ∧ ∀ k (hk : k < l.length), ∃ b off, ao = some ⟨b, off, none⟩ ∧ b < w.heap.size ∧ ActAt w b (off + k * 4) l[k] := by
  rcases h with ⟨a, rfl, rfl⟩ | ⟨b, off, cap, rfl, h1, h2, h3, h4⟩
  · exact ⟨a, 0, rfl, by simp, by simp, fun k hk => by simp at hk⟩
  · exact ⟨_, cap, rfl, h1, h2, fun k hk => ⟨b, off, rfl, h3, h4 k hk⟩⟩
def fnOf (f : FuncId) (B : Nat) : Value := .func (.func f) #[.pointer (some ⟨B, 0, none⟩)] #[]
/-- What holds at each round's head. -/
def DoInv (w : World) (st : St) (wr : World) : Prop :=
  ∃ v, PlaceAt wr w.heap.size v st.is st.put st.value ∧ wr.ownsRow (w.heap.size + 2) 95 3 v st.reads.length (rdCells st.reads) ∧ Below w.heap.size w wr ∧
    Holds3 wr (w.heap.size + 1) .u8 (fnOf 69 w.heap.size) (fnOf 70 w.heap.size) (fnOf 71 w.heap.size) ∧ w.heap.size + 2 ≤ wr.heap.size
theorem heap_new_at (w : World) (o : Obj) {N : Nat} (h : N = w.heap.size) : (w.alloc o).heap[N]? = some o := by subst h; exact heap_alloc_new w o
theorem doInv_start (w : World) (is : Bool) (value : List UInt8) (n m o : Nat) : DoInv w (begun is value)
    ((w.alloc (.cells #[.slice none 0 0, .bool is, .bool false, S (if is then value else [])] 122)).alloc (.map #[{ key := .int .u8 1, val := fnOf 69 w.heap.size, born := n }, { key := .int .u8 2, val := fnOf 70 w.heap.size, born := m }, { key := .int .u8 3, val := fnOf 71 w.heap.size, born := o }] 3)) := by
  refine ⟨_, ?_, World.ownsRow_nil _ _ _ _, by go_grown, ⟨_, _, heap_new_at _ _ (by simp), three_mk _ _ _ _ _ _ _ _ _ _ _ _ _ (by simp)⟩, by simp⟩
  unfold PlaceAt
  rw [Below.heap_alloc _ _ _ (by simp), heap_alloc_new]
  rfl
theorem Holds3.turns {w w' : World} {B base N : Nat} {kd : IntKind} {a b c : Value} (h : Holds3 w N kd a b c) (ht : Turns base B w w') (h1 : N < base) (h2 : N ≠ B) : Holds3 w' N kd a b c := by
  obtain ⟨es, cl, h3, h4⟩ := h
  exact ⟨es, cl, by rw [ht.block N h1 h2]; exact h3, h4⟩
/-- One round: behind the act is boxed, what the method leaves. -/
theorem doInv_step {w wr w' : World} {st st' : St} {o : Obj} {e : Ending} (hi : DoInv w st wr) (h : Stood (w.heap.size + 2) w.heap.size st'.reads st'.is st'.put st'.value (wr.alloc o) e w') : DoInv w st' w' := by
  obtain ⟨v, h1, h2, h3, h4, h5⟩ := hi
  obtain ⟨_, v', g1, g2, g3⟩ := h
  have ht : Turns (w.heap.size + 2) w.heap.size wr w' := (Turns.ofBelow ((Below.refl _ _).alloc h5 o)).trans g3
  exact ⟨v', g1, g2, h3.trans (ht.below (Nat.le_refl _) (by omega)), h4.turns ht (by omega) (by omega), by have := ht.size; omega⟩
theorem doInv_skip {w wr : World} {st : St} (o : Obj) (hi : DoInv w st wr) : DoInv w st (wr.alloc o) := by
  obtain ⟨v, h1, h2, h3, h4, h5⟩ := hi
  have hb : Below (w.heap.size + 2) wr (wr.alloc o) := (Below.refl _ _).alloc h5 o
  exact ⟨v, h1.block (Below.heap_alloc _ _ _ h1.lt), h2.alloc o, h3.trans (hb.mono (by omega)), h4.turns (Turns.ofBelow (B := w.heap.size) hb) (by omega) (by omega), by simp; omega⟩

/-- What the look-up gives. -/
theorem doInv_look {w wr : World} {st : St} (hi : DoInv w st wr) (o : Obj) (k : Int) : (Instr.lookup 124 (.map (some (w.heap.size + 1))) (.int .u8 k) true).run Tryz.prog (wr.alloc o) =
    .ok (.tuple #[(three k (fnOf 69 w.heap.size) (fnOf 70 w.heap.size) (fnOf 71 w.heap.size)).getD .nilFunc, .bool (three k (fnOf 69 w.heap.size) (fnOf 70 w.heap.size) (fnOf 71 w.heap.size)).isSome]) (wr.alloc o) := by
  obtain ⟨_, _, _, _, h4, _⟩ := doInv_skip o hi
  exact (h4.look (P := Tryz.prog) (mty := 124) Tryz.underlying124 Tryz.underlying49 .nilFunc (by kernel_rfl) k).2
/-- The bounds of what is gathered. -/
def StOk (st : St) : Prop := st.reads.length ≤ 1000000 ∧ st.value.length ≤ 140737488351232
/-- What the method does. -/
theorem doInv_call {w wr : World} {st : St} (hi : DoInv w st wr) (E : Env w) (a : Act) (hs : StOk st) :
    (a.kind = 1 → Calls Tryz.prog 69 #[.pointer (some ⟨w.heap.size, 0, none⟩), .agg #[.int .u8 a.kind, S a.key, S a.value, .int .i64 a.num]] (wr.alloc (.cells #[.int .u8 a.kind, S a.key, S a.value, .int .i64 a.num] 51)) fun e w' => e = .returned (.tuple #[]) ∧ DoInv w (doOne st a) w') ∧
    (a.kind = 2 → Calls Tryz.prog 70 #[.pointer (some ⟨w.heap.size, 0, none⟩), .agg #[.int .u8 a.kind, S a.key, S a.value, .int .i64 a.num]] (wr.alloc (.cells #[.int .u8 a.kind, S a.key, S a.value, .int .i64 a.num] 51)) fun e w' => e = .returned (.tuple #[]) ∧ DoInv w (doOne st a) w') ∧
    (a.kind = 3 → Calls Tryz.prog 71 #[.pointer (some ⟨w.heap.size, 0, none⟩), .agg #[.int .u8 a.kind, S a.key, S a.value, .int .i64 a.num]] (wr.alloc (.cells #[.int .u8 a.kind, S a.key, S a.value, .int .i64 a.num] 51)) fun e w' => e = .returned (.tuple #[]) ∧ DoInv w (doOne st a) w') := by
  obtain ⟨v, h1, h2, h3, h4, h5⟩ := hi
  have g1 := h1.block (w' := wr.alloc (.cells #[.int .u8 a.kind, S a.key, S a.value, .int .i64 a.num] 51)) (Below.heap_alloc _ _ _ h1.lt)
  have g2 := h2.alloc (.cells #[.int .u8 a.kind, S a.key, S a.value, .int .i64 a.num] 51)
  have g5 : w.heap.size + 2 ≤ (wr.alloc (.cells #[.int .u8 a.kind, S a.key, S a.value, .int .i64 a.num] 51)).heap.size := by simp; omega
  have hi' : DoInv w st wr := ⟨v, h1, h2, h3, h4, h5⟩
  refine ⟨fun hk => ?_, fun hk => ?_, fun hk => ?_⟩
  · refine (get_calls (w.heap.size + 2) w.heap.size v st.reads st.is st.put st.value a _ g1 (by omega) g5 g2 hs.1).mono ?_
    rintro e w' hst
    have := hst.stood
    have e1 : doOne st a = ⟨st.reads ++ [⟨a.key, st.is, st.value⟩], st.is, st.put, st.value⟩ := by unfold doOne; rw [if_pos hk]
    rw [e1]
    exact ⟨this.1, doInv_step (st' := ⟨st.reads ++ [⟨a.key, st.is, st.value⟩], st.is, st.put, st.value⟩) hi' this⟩
  · refine (puts_calls (w.heap.size + 2) w.heap.size v st.reads st.is st.put st.value a _ g1 (by omega) g5 g2).mono ?_
    rintro e w' hst
    have := hst.stood
    have e1 : doOne st a = ⟨st.reads, true, true, a.value⟩ := by unfold doOne; rw [if_neg (by omega), if_pos hk]
    rw [e1]
    exact ⟨this.1, doInv_step (st' := ⟨st.reads, true, true, a.value⟩) hi' this⟩
  · refine (add_calls (w.heap.size + 2) w.heap.size v st.reads st.is st.put st.value a _ (fun w' ht => E.keeps (h3.trans (((Below.refl _ _).alloc (by omega) _).trans (ht.below (Nat.le_refl _) (by omega))))) g1 (by omega) g5 g2 hs.1 hs.2).mono ?_
    rintro e w' this
    have e1 : doOne st a = ⟨st.reads ++ [⟨a.key, st.is, st.value⟩], true, true, addV st.value a.num⟩ := by unfold doOne; rw [if_neg (by omega), if_neg (by omega), if_pos hk]
    rw [e1]
    exact ⟨this.1, doInv_step (st' := ⟨st.reads ++ [⟨a.key, st.is, st.value⟩], true, true, addV st.value a.num⟩) hi' this⟩
theorem doAll_ok {is : Bool} {value : List UInt8} {l : List Act} {k : Nat} (hvl : value.length ≤ 140737488351232) (hl : l.length ≤ 1000000) (hlt : k ≤ l.length) (hok : ∀ a ∈ l, a.Ok) : StOk (doAll (begun is value) (l.take k)) := by
  have := doAll_bounds 140737488351232 (by omega) (l.take k) (begun is value) (by unfold begun; cases is <;> simp; exact hvl) (fun a ha => (hok a (List.mem_of_mem_take ha)).value)
  refine ⟨?_, this.2⟩
  have h1 := this.1
  have h2 : (begun is value).reads.length = 0 := rfl
  rw [h2, List.length_take] at h1
  omega

theorem ownsRow_mono {w : World} {base base' : Nat} {e : TypeId} {size : Nat} {v : Value} {n : Nat} {xs : List Value} (h : w.ownsRow base e size v n xs) (hb : base' ≤ base) : w.ownsRow base' e size v n xs := by
  refine ⟨h.1, ?_⟩
  rcases h.2 with h | ⟨g, cap, cur, hv, hg, r⟩
  · exact .inl h
  · exact .inr ⟨g, cap, cur, hv, by omega, r⟩
/-- What Do answers. -/
def Done (w : World) (st : St) (e : Ending) (w' : World) : Prop :=
  ∃ v, e = .returned (.tuple #[v, .bool st.put, S (if st.put then st.value else [])]) ∧ w'.ownsRow w.heap.size 95 3 v st.reads.length (rdCells st.reads) ∧ Below w.heap.size w w'
theorem ownsRow_drawn {w w' : World} {base : Nat} {e : TypeId} {size : Nat} {v : Value} {n : Nat} {xs : List Value} (h : w.ownsRow base e size v n xs) (hb : w'.heap = w.heap) : w'.ownsRow base e size v n xs := by
  unfold World.ownsRow at *
  rw [hb]
  exact h

set_option maxRecDepth 100000 in
set_option maxHeartbeats 2000000 in
theorem do_calls (is : Bool) (value : List UInt8) (v : Value) (l : List Act) (w : World) (E : Env w) (hvl : value.length ≤ 140737488351232) (hl : l.length ≤ 1000000) (hok : ∀ a ∈ l, a.Ok) (h : ActsAt w.heap.size w v l) :
    Calls Tryz.prog 16 #[.bool is, S value, v] w (Done w (doAll (begun is value) l)) := by
  obtain ⟨ao, cap, rfl, hlc, hcap, hc⟩ := acts_slice h
  have Hc := Lib.hid hc; clear hc h
  have Hok := Lib.hid hok; clear hok
  have HE := Lib.hid E; clear E
  have hmk := @run_makeMap Tryz.prog
  have hmf : ∀ (fn : Fn) (first cap : Array Value) (w : World), (Instr.makeFunc fn first cap).run Tryz.prog w = .ok (.func fn first cap) w := fun _ _ _ _ => rfl
  have hin := fun (cs : Array Value) l c k v h => run_insert_lastN (P := Tryz.prog) (w := w.alloc (.cells cs 122)) (N := w.heap.size + 1) (by simp) (mty := 124) Tryz.underlying124 Tryz.underlying49 l c k v h
  have hf0 := fresh_nil .u8
  have hf1 := fresh_cons .u8
  unfold S
  cases is
  · go_enter Tryz.func16, Tryz.ntmps16
    go_wp2_with fail
    clear hmk hmf hin hf0 hf1
    go_loopw [33] (fun i wr => ∃ k : Nat, k ≤ l.length ∧ i = .int .i64 k ∧ Hid (DoInv w (doAll (begun false value) (l.take k)) wr)) (fun i _ => l.length - (intOf i).toNat)
    case atStart => exact ⟨0, Nat.zero_le _, rfl, doInv_start w false value _ _ _⟩
    case round =>
      obtain ⟨k, hk, rfl, hinv⟩ := hrel
      by_cases hlt : k < l.length
      · obtain ⟨b, off, e, hb, hact⟩ := Hc.out k hlt
        subst e
        have hact := hact.keeps (by obtain ⟨_, _, _, h3, _⟩ := hinv.out; exact h3) hb
        have c0 := hact.c0
        have c1 := hact.c1
        have c2 := hact.c2
        have c3 := hact.c3
        clear hact
        have hnext := Lib.hid (doAll_take (begun false value) l k hlt)
        have Ha := Lib.hid (Hok.out _ (List.getElem_mem hlt))
        generalize l[k] = a at *
        unfold S at c1 c2
        have hlook := doInv_look hinv.out (.cells #[.int .u8 a.kind, S a.key, S a.value, .int .i64 a.num] 51) a.kind
        unfold S at hlook
        have hcall := Lib.hid (doInv_call hinv.out HE.out a (doAll_ok hvl hl hk Hok.out))
        by_cases k1 : a.kind = 1
        · have hth : three a.kind (fnOf 69 w.heap.size) (fnOf 70 w.heap.size) (fnOf 71 w.heap.size) = some (fnOf 69 w.heap.size) := by unfold three; rw [if_pos k1]
          rw [hth] at hlook
          clear hth
          simp only [Option.getD_some, Option.isSome_some, fnOf] at hlook
          have hc := hcall.out.1 k1
          unfold S at hc
          have Hcl := Lib.hid hc; clear hc
          clear k1
          go_wp2_with fail
          refine Hcl.out.mono ?_
          rintro e w' ⟨rfl, hd⟩
          have Hd := Lib.hid hd; clear hd
          clear Hcl hlook c0 c1 c2 c3 hcall
          go_wp2_with fail
          exact ⟨⟨k + 1, by omega, by go_num, by unfold Hid; rw [hnext.out]; exact Hd.out⟩, by simp [intOf]; omega⟩
        · by_cases k2 : a.kind = 2
          · have hth : three a.kind (fnOf 69 w.heap.size) (fnOf 70 w.heap.size) (fnOf 71 w.heap.size) = some (fnOf 70 w.heap.size) := by unfold three; rw [if_neg k1, if_pos k2]
            rw [hth] at hlook
            clear hth
            simp only [Option.getD_some, Option.isSome_some, fnOf] at hlook
            have hc := hcall.out.2.1 k2
            unfold S at hc
            have Hcl := Lib.hid hc; clear hc
            clear k1 k2
            go_wp2_with fail
            refine Hcl.out.mono ?_
            rintro e w' ⟨rfl, hd⟩
            have Hd := Lib.hid hd; clear hd
            clear Hcl hlook c0 c1 c2 c3 hcall
            go_wp2_with fail
            exact ⟨⟨k + 1, by omega, by go_num, by unfold Hid; rw [hnext.out]; exact Hd.out⟩, by simp [intOf]; omega⟩
          · by_cases k3 : a.kind = 3
            · have hth : three a.kind (fnOf 69 w.heap.size) (fnOf 70 w.heap.size) (fnOf 71 w.heap.size) = some (fnOf 71 w.heap.size) := by unfold three; rw [if_neg k1, if_neg k2, if_pos k3]
              rw [hth] at hlook
              clear hth
              simp only [Option.getD_some, Option.isSome_some, fnOf] at hlook
              have hc := hcall.out.2.2 k3
              unfold S at hc
              have Hcl := Lib.hid hc; clear hc
              clear k1 k2 k3
              go_wp2_with fail
              refine Hcl.out.mono ?_
              rintro e w' ⟨rfl, hd⟩
              have Hd := Lib.hid hd; clear hd
              clear Hcl hlook c0 c1 c2 c3 hcall
              go_wp2_with fail
              exact ⟨⟨k + 1, by omega, by go_num, by unfold Hid; rw [hnext.out]; exact Hd.out⟩, by simp [intOf]; omega⟩
            · have hth : three a.kind (fnOf 69 w.heap.size) (fnOf 70 w.heap.size) (fnOf 71 w.heap.size) = none := by unfold three; rw [if_neg k1, if_neg k2, if_neg k3]
              rw [hth] at hlook
              clear hth
              simp only [Option.getD_none, Option.isSome_none] at hlook
              have hd := doInv_skip (.cells #[.int .u8 a.kind, S a.key, S a.value, .int .i64 a.num] 51) hinv.out
              have hsame : doOne (doAll (begun false value) (List.take k l)) a = doAll (begun false value) (List.take k l) := by unfold doOne; rw [if_neg k1, if_neg k2, if_neg k3]
              rw [← hsame] at hd
              have Hd := Lib.hid hd; clear hd hsame
              clear hcall k1 k2 k3
              go_wp2_with fail
              exact ⟨⟨k + 1, by omega, by go_num, by unfold Hid; rw [hnext.out]; exact Hd.out⟩, by simp [intOf]; omega⟩
      · obtain rfl : k = l.length := by omega
        rw [List.take_of_length_le (Nat.le_refl _)] at hinv
        generalize doAll (begun false value) l = st at *
        obtain ⟨v', h1, h2, h3, _, _⟩ := hinv.out
        obtain ⟨c0, c1, c2, c3⟩ := h1.cell
        have hfin := Lib.hid h2
        have Hb := Lib.hid h3
        clear h1 h2 h3 hinv c1 Hc Hok HE
        obtain ⟨rs, is', put, val⟩ := st
        have hv : ∃ a l c, v' = .slice a l c := by
          rcases hfin.out.2 with ⟨h, _⟩ | ⟨_, _, _, h, _⟩
          · exact ⟨_, _, _, h⟩
          · exact ⟨_, _, _, h⟩
        obtain ⟨a', l', c', rfl⟩ := hv
        unfold S at c3
        cases put
        · go_wp2_with fail
          go_ret3
          exact ⟨_, rfl, ownsRow_mono hfin.out (by omega), Hb.out⟩
        · go_wp2_with fail
          go_quiet (fail)
          go_wp2
          go_ret3
          exact ⟨_, rfl, ownsRow_mono (ownsRow_drawn hfin.out rfl) (by omega), below_drewN Hb.out _⟩
  · go_enter Tryz.func16, Tryz.ntmps16
    go_wp2_with fail
    clear hmk hmf hin hf0 hf1
    go_loopw [33] (fun i wr => ∃ k : Nat, k ≤ l.length ∧ i = .int .i64 k ∧ Hid (DoInv w (doAll (begun true value) (l.take k)) wr)) (fun i _ => l.length - (intOf i).toNat)
    case atStart => exact ⟨0, Nat.zero_le _, rfl, doInv_start w true value _ _ _⟩
    case round =>
      obtain ⟨k, hk, rfl, hinv⟩ := hrel
      by_cases hlt : k < l.length
      · obtain ⟨b, off, e, hb, hact⟩ := Hc.out k hlt
        subst e
        have hact := hact.keeps (by obtain ⟨_, _, _, h3, _⟩ := hinv.out; exact h3) hb
        have c0 := hact.c0
        have c1 := hact.c1
        have c2 := hact.c2
        have c3 := hact.c3
        clear hact
        have hnext := Lib.hid (doAll_take (begun true value) l k hlt)
        have Ha := Lib.hid (Hok.out _ (List.getElem_mem hlt))
        generalize l[k] = a at *
        unfold S at c1 c2
        have hlook := doInv_look hinv.out (.cells #[.int .u8 a.kind, S a.key, S a.value, .int .i64 a.num] 51) a.kind
        unfold S at hlook
        have hcall := Lib.hid (doInv_call hinv.out HE.out a (doAll_ok hvl hl hk Hok.out))
        by_cases k1 : a.kind = 1
        · have hth : three a.kind (fnOf 69 w.heap.size) (fnOf 70 w.heap.size) (fnOf 71 w.heap.size) = some (fnOf 69 w.heap.size) := by unfold three; rw [if_pos k1]
          rw [hth] at hlook
          clear hth
          simp only [Option.getD_some, Option.isSome_some, fnOf] at hlook
          have hc := hcall.out.1 k1
          unfold S at hc
          have Hcl := Lib.hid hc; clear hc
          clear k1
          go_wp2_with fail
          refine Hcl.out.mono ?_
          rintro e w' ⟨rfl, hd⟩
          have Hd := Lib.hid hd; clear hd
          clear Hcl hlook c0 c1 c2 c3 hcall
          go_wp2_with fail
          exact ⟨⟨k + 1, by omega, by go_num, by unfold Hid; rw [hnext.out]; exact Hd.out⟩, by simp [intOf]; omega⟩
        · by_cases k2 : a.kind = 2
          · have hth : three a.kind (fnOf 69 w.heap.size) (fnOf 70 w.heap.size) (fnOf 71 w.heap.size) = some (fnOf 70 w.heap.size) := by unfold three; rw [if_neg k1, if_pos k2]
            rw [hth] at hlook
            clear hth
            simp only [Option.getD_some, Option.isSome_some, fnOf] at hlook
            have hc := hcall.out.2.1 k2
            unfold S at hc
            have Hcl := Lib.hid hc; clear hc
            clear k1 k2
            go_wp2_with fail
            refine Hcl.out.mono ?_
            rintro e w' ⟨rfl, hd⟩
            have Hd := Lib.hid hd; clear hd
            clear Hcl hlook c0 c1 c2 c3 hcall
            go_wp2_with fail
            exact ⟨⟨k + 1, by omega, by go_num, by unfold Hid; rw [hnext.out]; exact Hd.out⟩, by simp [intOf]; omega⟩
          · by_cases k3 : a.kind = 3
            · have hth : three a.kind (fnOf 69 w.heap.size) (fnOf 70 w.heap.size) (fnOf 71 w.heap.size) = some (fnOf 71 w.heap.size) := by unfold three; rw [if_neg k1, if_neg k2, if_pos k3]
              rw [hth] at hlook
              clear hth
              simp only [Option.getD_some, Option.isSome_some, fnOf] at hlook
              have hc := hcall.out.2.2 k3
              unfold S at hc
              have Hcl := Lib.hid hc; clear hc
              clear k1 k2 k3
              go_wp2_with fail
              refine Hcl.out.mono ?_
              rintro e w' ⟨rfl, hd⟩
              have Hd := Lib.hid hd; clear hd
              clear Hcl hlook c0 c1 c2 c3 hcall
              go_wp2_with fail
              exact ⟨⟨k + 1, by omega, by go_num, by unfold Hid; rw [hnext.out]; exact Hd.out⟩, by simp [intOf]; omega⟩
            · have hth : three a.kind (fnOf 69 w.heap.size) (fnOf 70 w.heap.size) (fnOf 71 w.heap.size) = none := by unfold three; rw [if_neg k1, if_neg k2, if_neg k3]
              rw [hth] at hlook
              clear hth
              simp only [Option.getD_none, Option.isSome_none] at hlook
              have hd := doInv_skip (.cells #[.int .u8 a.kind, S a.key, S a.value, .int .i64 a.num] 51) hinv.out
              have hsame : doOne (doAll (begun true value) (List.take k l)) a = doAll (begun true value) (List.take k l) := by unfold doOne; rw [if_neg k1, if_neg k2, if_neg k3]
              rw [← hsame] at hd
              have Hd := Lib.hid hd; clear hd hsame
              clear hcall k1 k2 k3
              go_wp2_with fail
              exact ⟨⟨k + 1, by omega, by go_num, by unfold Hid; rw [hnext.out]; exact Hd.out⟩, by simp [intOf]; omega⟩
      · obtain rfl : k = l.length := by omega
        rw [List.take_of_length_le (Nat.le_refl _)] at hinv
        generalize doAll (begun true value) l = st at *
        obtain ⟨v', h1, h2, h3, _, _⟩ := hinv.out
        obtain ⟨c0, c1, c2, c3⟩ := h1.cell
        have hfin := Lib.hid h2
        have Hb := Lib.hid h3
        clear h1 h2 h3 hinv c1 Hc Hok HE
        obtain ⟨rs, is', put, val⟩ := st
        have hv : ∃ a l c, v' = .slice a l c := by
          rcases hfin.out.2 with ⟨h, _⟩ | ⟨_, _, _, h, _⟩
          · exact ⟨_, _, _, h⟩
          · exact ⟨_, _, _, h⟩
        obtain ⟨a', l', c', rfl⟩ := hv
        unfold S at c3
        cases put
        · go_wp2_with fail
          go_ret3
          exact ⟨_, rfl, ownsRow_mono hfin.out (by omega), Hb.out⟩
        · go_wp2_with fail
          go_quiet (fail)
          go_wp2
          go_ret3
          exact ⟨_, rfl, ownsRow_mono (ownsRow_drawn hfin.out rfl) (by omega), below_drewN Hb.out _⟩
end Go.Proofs.YtahckodhnkloeaaGreatDoor

/- Walk: the reference's Keys: the keys of acts, laid one by one at their places. -/
import Derived.Test.YtahckodhnkloeaaGreatDoorKeys
import Derived.Test.YtahckodhnkloeaaGreatDoorPlainIns
import Derived.Test.YtahckodhnkloeaaGreatDoorLent
import Derived.Deep.RegionHeld3
import Derived.Deep.AppendLies
import Derived.Sort.Walk0
namespace Go.Proofs.YtahckodhnkloeaaGreatDoor
open Go Go.RowKit Go.Sort

theorem step_append_own {P : Program} {w : World} {ops : Array Oper} {o : Oper} {a : Go.Act} {K : Go.Act → World → Prop} {Q : Exit → Go.Act → World → Prop} {E : Prop} (hgd : o.guard = none) (s x : Operand) (t : TypeId)
    (ho : o.op = .call { callee := .builtin .append, args := #[s, x], argTypes := #[t, t] })
    (base : Nat) (e : TypeId) (i : TypeInfo) (z : Value) (size bytes : Nat) (ht : P.underlying t = some (.slice e)) (hi : P.info? e = some i) (hz : i.zero = some z)
    (hsize : i.size = size) (hby : i.bytes = bytes) (hzs : z.cells.size = size) (hsz : 0 < size)
    (v : Value) (n : Nat) (xs : List Value) (hs : a.eval s = v) (hown : w.ownsRow base e size v n xs)
    (ad : Addr) (m c : Nat) (news : List Value) (hx : a.eval x = .slice (some ad) m c) (hl : news.length = m * size) (hnews : ∀ j u, news[j]? = some u → w.cell? (ad.add j) = some u) (h1 : ∀ u ∈ news, u.oneCell' = true)
    (h63 : n + m ≤ maxLen) (hbytes : (n + m) * bytes ≤ 140737488355328) (hbase : base ≤ w.heap.size)
    (h : ∀ v' w', w'.ownsRow base e size v' (n + m) (xs ++ news) → w.grownBy w' v.ownBlock → K (a.put o.dst v') w') :
    if Region.wanted o (yielded ops a.tmps) = true then Oper.wp P o a w K Q else E := by
  have hw : Region.wanted o (yielded ops a.tmps) = true := by simp [Region.wanted, hgd]
  rw [if_pos hw]
  exact wp_append_own w s x t ho base e i z size bytes ht hi hz hsize hby hzs hsz v n xs hs hown ad m c news hx hl hnews h1 h63 hbytes hbase fun v' w' h2 h3 _ => h v' w' h2 h3

theorem own_cut {w : World} {base n m c size : Nat} {e : TypeId} {A : Option Addr} {xs : List Value} (h : w.ownsRow base e size (.slice A n c) n xs) (hm : m ≤ n) : w.ownsRow base e size (.slice A m c) m (xs.take (m * size)) := by
  obtain ⟨hl, h2⟩ := h
  refine ⟨by rw [List.length_take, hl]; exact Nat.min_eq_left (Nat.mul_le_mul_right _ hm), ?_⟩
  rcases h2 with ⟨hv, h0⟩ | ⟨g, cap, cur, hv, h3, h4, h5, h6, h7, h8⟩
  · cases hv
    exact .inl ⟨by rw [show m = 0 by omega], by omega⟩
  · cases hv
    exact .inr ⟨g, c, cur, rfl, h3, h4, by omega, h6, h7, by rw [← h8, List.take_take]; congr 1; exact (Nat.min_eq_left (Nat.mul_le_mul_right _ hm)).symm⟩
theorem cut_head {P : Program} (t e : TypeId) {i : TypeInfo} (ht : P.underlying t = some (.slice e)) (hi : P.info? e = some i) (A : Option Addr) (n c m : Nat) (hm : m ≤ n) (hc : n ≤ c) :
    ∀ W : World, (Instr.slice t (.slice A n c) none (some (.int .i64 m)) none).run P W = .ok (.slice A m c) W := by
  intro W
  have hel : P.elem t = e := by simp [Program.elem, ht]
  have hu : P.underlying t = some (.slice (P.elem t)) := by rw [hel]; exact ht
  have ha : (A.map fun x => x.add 0) = A := by cases A <;> simp [Addr.add]
  rw [run_slice_h W t A n c hu .i64 m (by omega) (by omega), hel]
  simp [sizeOf, typeInfo, hi, sliced, Result.andThen, ha]
theorem cut_tail {P : Program} (t e : TypeId) {i : TypeInfo} (ht : P.underlying t = some (.slice e)) (hi : P.info? e = some i) (hsz : i.size = 1) (A : Option Addr) (n c m : Nat) (hm : m ≤ n) :
    ∀ W : World, (Instr.slice t (.slice A n c) (some (.int .i64 m)) none none).run P W = .ok (.slice (if c = m then A else A.map (·.add m)) (n - m) (c - m)) W := by
  intro W
  have hel : P.elem t = e := by simp [Program.elem, ht]
  have hu : P.underlying t = some (.slice (P.elem t)) := by rw [hel]; exact ht
  rw [run_slice_l W t A n c hu .i64 m (by omega) (by omega), hel]
  simp [sizeOf, typeInfo, hi, hsz, sliced, Result.andThen]

/-- What lies behind place m of a row of texts, as a source. -/
def TailAt (w : World) (g oc m : Nat) (out : List Txt) : Prop := ∀ j u, ((out.drop m).map encStr)[j]? = some u → w.cell? ((if oc = m then (⟨g, 0, none⟩ : Addr) else ⟨g, m, none⟩).add j) = some u
theorem tail_at {w : World} {base g oc m : Nat} {out : List Txt} (h : OwnsTexts base w (.slice (some ⟨g, 0, none⟩) out.length oc) out) (hm : m ≤ out.length) (hc : out.length ≤ oc) : TailAt w g oc m out := by
  intro j u hu
  have hj : j < ((out.drop m).map encStr).length := (List.getElem?_eq_some_iff.1 hu).1
  rw [List.length_map, List.length_drop] at hj
  rw [if_neg (by omega)]
  have hcell := World.ownsRow.cells (g := g) h rfl (m + j) u (by rw [← hu, List.map_drop, List.getElem?_drop])
  rw [add_zero_addr] at hcell
  rw [show (⟨g, m, none⟩ : Addr).add j = ⟨g, m + j, none⟩ by unfold Addr.add; split <;> simp_all]
  exact hcell
theorem enc_one (l : List Txt) : ∀ u ∈ l.map encStr, u.oneCell' = true := by
  intro u hu
  obtain ⟨x, _, rfl⟩ := List.mem_map.1 hu
  rfl
theorem owns_empty (w : World) : (w.alloc (.cells #[] 9)).ownsRow w.heap.size 9 1 (.slice (some ⟨w.heap.size, 0, none⟩) 0 0) 0 [] :=
  ⟨rfl, .inr ⟨w.heap.size, 0, #[], rfl, Nat.le_refl _, heap_alloc_new w _, Nat.le_refl _, by unfold maxLen; omega, rfl, rfl⟩⟩
theorem texts_new {base : Nat} {w : World} {v : Value} {out : List Txt} {key : Txt} {m n : Nat} {zs : List Value} (hm : m ≤ out.length) (hn : n = out.length + 1) (hz : zs = (out.map encStr).take (m * 1) ++ [.string ⟨key.toArray⟩] ++ (out.map encStr).drop m) (h : w.ownsRow base 9 1 v n zs) : OwnsTexts base w v (out.take m ++ key :: out.drop m) := by
  subst hn hz
  unfold OwnsTexts
  have e1 : (out.take m ++ key :: out.drop m).length = out.length + 1 := by simp; omega
  have e2 : (out.take m ++ key :: out.drop m).map encStr = (out.map encStr).take (m * 1) ++ [.string ⟨key.toArray⟩] ++ (out.map encStr).drop m := by simp [encStr, List.map_take, List.map_drop]
  rw [e1, e2]; exact h

theorem rel_new {l : List Act} {k at' : Nat} {out : List Txt} (hlt : k < l.length) (hr : RisesAs out ((l.take k).map Act.key)) (hat : at' ≤ out.length) (hl : LessTo out l[k].key at') (hn : ∀ (h : at' < out.length), ¬ out[at'] < l[k].key ∧ out[at'] ≠ l[k].key) :
    RisesAs (out.take at' ++ l[k].key :: out.drop at') ((l.take (k + 1)).map Act.key) := by
  rw [List.take_succ_eq_append_getElem hlt, List.map_append]
  exact rises_new hr hat hl hn
theorem rel_there {l : List Act} {k at' : Nat} {out : List Txt} (hlt : k < l.length) (hr : RisesAs out ((l.take k).map Act.key)) (hat : at' < out.length) (he : out[at'] = l[k].key) :
    RisesAs out ((l.take (k + 1)).map Act.key) := by
  rw [List.take_succ_eq_append_getElem hlt, List.map_append]
  exact rises_there hr hat he
theorem own_form {base : Nat} {w : World} {v : Value} {out : List Txt} (h : OwnsTexts base w v out) : ∃ A c, v = .slice A out.length c ∧ out.length ≤ c ∧ c ≤ 9223372036854775807 ∧ ((A = none ∧ out = []) ∨ ∃ g, A = some ⟨g, 0, none⟩ ∧ base ≤ g ∧ g < w.heap.size) := by
  rcases h.2 with ⟨rfl, h0⟩ | ⟨g, cap, cur, rfl, hb, hg, h1, h2, _⟩
  · obtain rfl : out = [] := List.length_eq_zero_iff.1 h0
    exact ⟨none, 0, rfl, by simp, by simp, .inl ⟨rfl, rfl⟩⟩
  · exact ⟨_, cap, rfl, h1, h2, .inr ⟨g, rfl, hb, (Array.getElem?_eq_some_iff.1 hg).1⟩⟩

/-- What holds at each round's head. -/
def KeysInv (l : List Act) (w : World) (k : Nat) (out : List Txt) (o : Value) (wr : World) : Prop :=
  RisesAs out ((l.take k).map Act.key) ∧ out.length ≤ k ∧ OwnsTexts w.heap.size wr o out ∧ Below w.heap.size w wr
set_option maxRecDepth 100000 in
set_option maxHeartbeats 4000000 in
theorem refKeys_calls (l : List Act) (hl : l.length ≤ 900000) (v : Value) (w : World) (h : ActsAt w.heap.size w v l) :
    Calls Tryz.prog 28 #[v] w (KeysDone l w) := by
  obtain ⟨i0, hi, hz0, hz1, hz2⟩ := info_parts infoStr
  obtain ⟨ao, cap, rfl, hlc, hcap, hc⟩ := acts_slice h
  have Hc := Lib.hid hc; clear hc h
  go_enter Tryz.func28, Tryz.ntmps28
  go_wp2_with fail
  go_loopw [3, 4] (fun o i wr => ∃ (k : Nat) (out : List Txt) (oa : Option Addr) (oc : Nat), k ≤ l.length ∧ i = .int .i64 k ∧ o = .slice oa out.length oc ∧ Hid (KeysInv l w k out o wr)) (fun _ i _ => l.length - (intOf i).toNat)
  case atStart => exact ⟨0, [], none, 0, Nat.zero_le _, rfl, rfl, ⟨by simpa using rises_nil, Nat.le_refl _, ⟨rfl, .inl ⟨rfl, rfl⟩⟩, Below.refl _ _⟩⟩
  case round =>
    obtain ⟨k, out, oa, oc, hk, rfl, rfl, hinv⟩ := hrel
    by_cases hlt : k < l.length
    · obtain ⟨hr, hlen, hown, hb⟩ := hinv.out
      obtain ⟨oa', oc', e0, hoc1, hoc2, hform⟩ := own_form hown
      obtain ⟨e1, _, e3⟩ := Value.slice.inj e0
      subst e1 e3
      clear e0
      have Hr := Lib.hid hr
      have Hown := Lib.hid hown
      have Hb := Lib.hid hb
      clear hr hown hb hinv
      obtain ⟨b, off, e, hbl, hact⟩ := Hc.out k hlt
      subst e
      have Hact := Lib.hid hact; clear hact
      have Hnew := Lib.hid (fun at' h1 h2 h3 => @rel_new l k at' out hlt Hr.out h1 h2 h3)
      have Hthere := Lib.hid (fun at' h1 h2 => @rel_there l k at' out hlt Hr.out h1 h2)
      have Hc1 := Lib.hid (show w.cell? ⟨b, off + k * 4 + 1, none⟩ = some (S l[k].key) from Hact.out.c1)
      clear Hact
      generalize l[k].key = key at *
      go_wp2_with fail
      go_loopw [5] (fun i wx => ∃ q : Nat, q ≤ out.length ∧ i = .int .i64 q ∧ Hid (LessTo out key q) ∧ Hid (OwnsTexts w.heap.size wx (.slice oa out.length oc) out) ∧ Hid (Below w.heap.size w wx)) (fun i _ => out.length - (intOf i).toNat)
      case atStart => exact ⟨0, Nat.zero_le _, rfl, lessTo_zero _ _, Hown, Hb⟩
      case round =>
        obtain ⟨q, hq, rfl, hless, hown, hb⟩ := hrel
        clear Hown Hb
        have ck : wr.cell? ⟨b, off + k * 4 + 1, none⟩ = some (S key) := (hb.out.cell (p := ⟨b, off + k * 4 + 1, none⟩) hbl).trans Hc1.out
        unfold S at ck
        have i1 : (0 : Int) ≤ (k : Int) := by omega
        have i2 : (k : Int) < (l.length : Int) := by omega
        have i3 : (0 : Int) ≤ (q : Int) := by omega
        by_cases hin : q < out.length
        · have i4 : (q : Int) < (out.length : Int) := by omega
          rcases hform with ⟨_, h0⟩ | ⟨g, rfl, hg1, hg2⟩
          · rw [h0] at hin; simp at hin
          have Hsucc := Lib.hid (fun h1 => lessTo_succ hless.out hin h1)
          have Hth := Lib.hid (Hthere.out q hin)
          have Hnw := Lib.hid (Hnew.out q hq hless.out)
          clear Hthere Hnew hless
          have hbl1 := bytesLess_eq out[q] key
          obtain ⟨oq, hou⟩ : ∃ oq, out[q] = oq := ⟨_, rfl⟩
          rw [hou] at hbl1
          have Hou := Lib.hid hou; clear hou
          have cq : wr.cell? ⟨g, q, none⟩ = some (.string ⟨oq.toArray⟩) := by
            have := World.ownsRow.cells (g := g) hown.out rfl q (.string ⟨out[q].toArray⟩) (by simp [hin, encStr])
            rw [add_zero_addr, Hou.out] at this
            exact this
          by_cases hls : oq < key
          · rw [decide_eq_true hls] at hbl1
            replace Hsucc := Lib.hid (Hsucc.out (by rw [Hou.out]; exact hls))
            clear Hth Hnw
            go_wp2_with fail
            go_quiet (fail)
            have hown_ := hown.out
            have hb_ := Lib.hid (below_drewN hb.out nq)
            have hown_ := Lib.hid (show OwnsTexts w.heap.size (wr.drewN nq) (.slice (some ⟨g, 0, none⟩) out.length oc) out from hown_)
            clear hown hb ck cq
            generalize wr.drewN nq = wr at *
            have hown := hown_
            have hb := hb_
            clear hown_ hb_
            have ck : wr.cell? ⟨b, off + k * 4 + 1, none⟩ = some (S key) := (hb.out.cell (p := ⟨b, off + k * 4 + 1, none⟩) hbl).trans Hc1.out
            unfold S at ck
            go_wp2_with fail
            exact ⟨⟨q + 1, by omega, by go_num, Hsucc.out, hown.out, hb.out⟩, by simp [intOf]; omega⟩
          · rw [decide_eq_false hls] at hbl1
            clear Hsucc
            by_cases heq : oq = key
            · replace Hth := Lib.hid (Hth.out (by rw [Hou.out]; exact heq))
              clear Hnw
              have hqe : (oq == key) = true := by simpa using heq
              have heq' := Lib.hid heq
              clear heq
              go_wp2_with fail
              go_quiet (fail)
              have hown_ := hown.out
              have hb_ := Lib.hid (below_drewN hb.out nq)
              have hown_ := Lib.hid (show OwnsTexts w.heap.size (wr.drewN nq) (.slice (some ⟨g, 0, none⟩) out.length oc) out from hown_)
              clear hown hb ck cq
              generalize wr.drewN nq = wr at *
              have hown := hown_
              have hb := hb_
              clear hown_ hb_
              have ck : wr.cell? ⟨b, off + k * 4 + 1, none⟩ = some (S key) := (hb.out.cell (p := ⟨b, off + k * 4 + 1, none⟩) hbl).trans Hc1.out
              unfold S at ck
              have cq : wr.cell? ⟨g, q, none⟩ = some (.string ⟨oq.toArray⟩) := by
                have := World.ownsRow.cells (g := g) hown.out rfl q (.string ⟨out[q].toArray⟩) (by simp [hin, encStr])
                rw [add_zero_addr, Hou.out] at this
                exact this
              go_wp2_with fail
              go_quiet (fail)
              have hown_ := hown.out
              have hb_ := Lib.hid (below_drewN hb.out nq)
              have hown_ := Lib.hid (show OwnsTexts w.heap.size (wr.drewN nq) (.slice (some ⟨g, 0, none⟩) out.length oc) out from hown_)
              clear hown hb ck cq
              generalize wr.drewN nq = wr at *
              have hown := hown_
              have hb := hb_
              clear hown_ hb_
              have ck : wr.cell? ⟨b, off + k * 4 + 1, none⟩ = some (S key) := (hb.out.cell (p := ⟨b, off + k * 4 + 1, none⟩) hbl).trans Hc1.out
              unfold S at ck
              go_wp2_with fail
              exact ⟨⟨k + 1, out, _, oc, by omega, by go_num, rfl, ⟨Hth.out, by omega, hown.out, hb.out⟩⟩, by simp [intOf]; omega⟩
            · have hqe : (oq == key) = false := by simpa using heq
              replace Hnw := Lib.hid (Hnw.out (fun h => ⟨by rw [Hou.out]; exact hls, by rw [Hou.out]; exact heq⟩))
              clear Hth
              go_wp2_with fail
              go_quiet (fail)
              have hown_ := hown.out
              have hb_ := Lib.hid (below_drewN hb.out nq)
              have hown_ := Lib.hid (show OwnsTexts w.heap.size (wr.drewN nq) (.slice (some ⟨g, 0, none⟩) out.length oc) out from hown_)
              clear hown hb ck cq
              generalize wr.drewN nq = wr at *
              have hown := hown_
              have hb := hb_
              clear hown_ hb_
              have ck : wr.cell? ⟨b, off + k * 4 + 1, none⟩ = some (S key) := (hb.out.cell (p := ⟨b, off + k * 4 + 1, none⟩) hbl).trans Hc1.out
              unfold S at ck
              have cq : wr.cell? ⟨g, q, none⟩ = some (.string ⟨oq.toArray⟩) := by
                have := World.ownsRow.cells (g := g) hown.out rfl q (.string ⟨out[q].toArray⟩) (by simp [hin, encStr])
                rw [add_zero_addr, Hou.out] at this
                exact this
              go_wp2_with fail
              go_quiet (fail)
              have hown_ := hown.out
              have hb_ := Lib.hid (below_drewN hb.out nq)
              have hown_ := Lib.hid (show OwnsTexts w.heap.size (wr.drewN nq) (.slice (some ⟨g, 0, none⟩) out.length oc) out from hown_)
              clear hown hb ck cq
              generalize wr.drewN nq = wr at *
              have hown := hown_
              have hb := hb_
              clear hown_ hb_
              have ck : wr.cell? ⟨b, off + k * 4 + 1, none⟩ = some (S key) := (hb.out.cell (p := ⟨b, off + k * 4 + 1, none⟩) hbl).trans Hc1.out
              unfold S at ck
              have hcF := cut_tail 39 9 Tryz.underlying39 hi hz1 (some ⟨g, 0, none⟩) out.length oc q hq
              have hcH := cut_head 39 9 Tryz.underlying39 hi (some ⟨g, 0, none⟩) out.length oc q hq hoc1
              obtain ⟨ad, had⟩ : ∃ ad : Addr, (if oc = q then (⟨g, 0, none⟩ : Addr) else ⟨g, q, none⟩) = ad := ⟨_, rfl⟩
              have hif : (if oc = q then (some ⟨g, 0, none⟩ : Option Addr) else (some ⟨g, 0, none⟩ : Option Addr).map (·.add q)) = some ad := by rw [← had]; split <;> simp [add_zero_addr]
              simp only [hif] at hcF
              have htl := tail_at hown.out hq hoc1
              unfold TailAt at htl
              rw [had] at htl
              have Htl := Lib.hid htl
              clear hif had htl
              have hbe : Below wr.heap.size wr (wr.alloc (.cells #[] 9)) := (Below.refl _ _).alloc (Nat.le_refl _) _
              go_wp2_with (first | (at_builtin; refine wpList_append_own _ rfl _ _ 39 rfl wr.heap.size 9 i0 (.string ⟨#[]⟩) 1 16 Tryz.underlying39 hi hz0 hz1 hz2 rfl (by decide) _ 0 [] rfl (owns_empty wr) ad (out.length - q) (oc - q) ((out.drop q).map encStr) rfl ?c1a ?c2a ?c3a ?c4a ?c5a ?c6a ?_))
              try case c1a => simp
              try case c2a => exact fun j u hu => (hbe.cell (World.block_lt_of_cell? wr _ (Htl.out j u hu))).trans (Htl.out j u hu)
              try case c3a => exact enc_one _
              try case c4a => unfold maxLen; omega
              try case c5a => omega
              try case c6a => simp
              intro v1 w1 hown1 hgrow1 hnil1
              have hb1 : Below wr.heap.size wr w1 := hbe.grown hgrow1 (by simp) (fun k hk => by cases hk; exact Nat.le_refl _)
              have hownO := Lib.hid (own_cut (own_keeps hown.out hb1) hq : w1.ownsRow w.heap.size 9 1 (.slice (some ⟨g, 0, none⟩) q oc) q ((out.map encStr).take (q * 1)))
              have hbw := Lib.hid (hb.out.trans (hb1.mono hb.out.size))
              obtain ⟨gr, cr, rfl, hgr⟩ : ∃ gr cr, v1 = .slice (some ⟨gr, 0, none⟩) (out.length - q) cr ∧ wr.heap.size ≤ gr := by
                rcases hown1.2 with ⟨h0, _⟩ | ⟨g', c', _, h0, h1, _⟩
                · exact (hnil1 h0).elim
                · exact ⟨g', c', h0, h1⟩
              have hownR := Lib.hid hown1
              have hrl := (hown1.lt gr rfl).2
              have hmono := hb1.size
              have ck : w1.cell? ⟨b, off + k * 4 + 1, none⟩ = some (S key) := (hbw.out.cell (p := ⟨b, off + k * 4 + 1, none⟩) hbl).trans Hc1.out
              unfold S at ck
              have hgl := (hown.out.lt g rfl).2
              have hbase1 := hbw.out.size
              clear hown1 hgrow1 hnil1 hbe hb1 hown hb Htl hcF
              have hbne : some b ≠ (Value.slice (some ⟨g, 0, none⟩) q oc).ownBlock := by simp [Value.ownBlock] <;> omega
              have hrne : (Value.slice (some ⟨gr, 0, none⟩) (out.length - q) cr).ownBlock ≠ (Value.slice (some ⟨g, 0, none⟩) q oc).ownBlock := by simp [Value.ownBlock] <;> omega
              go_wp2_with fail
              go_region_held3 (fun w' => w'.cell? ⟨b, off + k * 4 + 1, none⟩ = some (.string ⟨key.toArray⟩))
                (first | go_keep | exact ck3.out | exact ck2.out)
                (first
                  | (refine step_append_lies _ (by rfl) (.tmp 54) (.tmp 60) 39 (by rfl) w.heap.size 9 i0 (.string ⟨#[]⟩) 1 16 Tryz.underlying39 hi hz0 hz1 hz2 rfl (by decide) (.slice (some ⟨g, 0, none⟩) q oc) (q) ((out.map encStr).take (q * 1)) (by rfl) ((hownO.out.alloc _).drew) ⟨w1.heap.size, 0, none⟩ 1 1 [.string ⟨key.toArray⟩] (by rfl) (by rfl) (World.news_of_block (cs := #[.string ⟨key.toArray⟩]) (t := 9) (fr := (0, 0)) (heap_alloc_new w1 _)) (by simp [Value.oneCell']) (by omega) (by unfold maxLen; omega) (by omega) (by simp; omega) (w1.heap.size + 1) (by simp) ?_; intro g2 cap2 w2 hown2 hgrow2 hat2 hlt2; have hbne2 := (hown2.lt g2 rfl).1; have ck2 := Lib.hid ((hgrow2.cell_far ⟨b, off + k * 4 + 1, none⟩ (by simp; omega) hbne).trans ((((Below.refl w1.heap.size w1).alloc (Nat.le_refl _) _).cell (p := ⟨b, off + k * 4 + 1, none⟩) (by show b < _; omega)).trans ck)); have hs2 := hgrow2.size; simp at hs2)
                  | (refine step_append_own (by rfl) (.tmp 61) (.tmp 62) 39 (by rfl) w.heap.size 9 i0 (.string ⟨#[]⟩) 1 16 Tryz.underlying39 hi hz0 hz1 hz2 rfl (by decide) (.slice (some ⟨g2, 0, none⟩) (q + 1) cap2) (q + 1) _ (by rfl) hown2 ⟨gr, 0, none⟩ (out.length - q) cr _ (by rfl) (by simp) (World.ownsRow.cells (g := gr) ((hownR.out.alloc _).drew.kept hgrow2 (Or.inr hrne)) rfl) (fun u hu => enc_one out u (List.mem_of_mem_drop hu)) (by unfold maxLen; omega) (by omega) (by omega) ?_; intro v3 w3 hown3 hgrow3; have ck3 := Lib.hid ((hgrow3.cell_far ⟨b, off + k * 4 + 1, none⟩ (by show b < _; omega) (by simp [Value.ownBlock] <;> omega)).trans ck2.out)))
              have hb3 := Lib.hid (((((hbw.out.alloc hbase1 _).drew).grown hgrow2 (by simp; omega) (fun k hk => by simp [Value.ownBlock] at hk <;> omega)).grown hgrow3 (by omega) (fun k hk => (hown2.lt k hk).1)) : Below w.heap.size w w3)
              obtain ⟨out', hout'⟩ : ∃ o, out.take (q) ++ key :: out.drop (q) = o := ⟨_, rfl⟩
              have hT := texts_new (m := q) (key := key) hq (by omega) (rfl) hown3
              rw [hout'] at hT Hnw
              have hlen' : out'.length ≤ k + 1 := by rw [← hout']; simp <;> omega
              obtain ⟨A3, c3, rfl, hc3, _, _⟩ := own_form hT
              have Hfin := Lib.hid (show KeysInv l w (k + 1) out' (.slice A3 out'.length c3) w3 from ⟨Hnw.out, hlen', hT, hb3.out⟩)
              clear hT hb3 hown3 hown2 hgrow2 hgrow3 hout' Hnw hownO hownR ck2 ck3 ck
              go_wp2_with fail
              exact ⟨⟨k + 1, out', _, c3, by omega, by go_num, rfl, Hfin.out⟩, by simp [intOf]; omega⟩
        · obtain rfl : q = out.length := by omega
          have Hnw := Lib.hid (Hnew.out out.length (Nat.le_refl _) hless.out (fun h => by omega))
          go_wp2_with fail
          go_quiet (fail)
          have hown_ := hown.out
          have hb_ := Lib.hid (below_drewN hb.out nq)
          have hown_ := Lib.hid (show OwnsTexts w.heap.size (wr.drewN nq) (.slice oa out.length oc) out from hown_)
          clear hown hb ck 
          generalize wr.drewN nq = wr at *
          have hown := hown_
          have hb := hb_
          clear hown_ hb_
          have ck : wr.cell? ⟨b, off + k * 4 + 1, none⟩ = some (S key) := (hb.out.cell (p := ⟨b, off + k * 4 + 1, none⟩) hbl).trans Hc1.out
          unfold S at ck
          go_wp2_with fail
          go_quiet (fail)
          have hown_ := hown.out
          have hb_ := Lib.hid (below_drewN hb.out nq)
          have hown_ := Lib.hid (show OwnsTexts w.heap.size (wr.drewN nq) (.slice oa out.length oc) out from hown_)
          clear hown hb ck 
          generalize wr.drewN nq = wr at *
          have hown := hown_
          have hb := hb_
          clear hown_ hb_
          have ck : wr.cell? ⟨b, off + k * 4 + 1, none⟩ = some (S key) := (hb.out.cell (p := ⟨b, off + k * 4 + 1, none⟩) hbl).trans Hc1.out
          unfold S at ck
          rcases hform with ⟨rfl, rfl⟩ | ⟨g, rfl, hg1, hg2⟩
          · have hcF := cut_tail 39 9 Tryz.underlying39 hi hz1 none 0 oc 0 (Nat.le_refl _)
            have hcH := cut_head 39 9 Tryz.underlying39 hi none 0 oc 0 (Nat.le_refl _) hoc1
            have hoc0 : oc = 0 := by
              rcases hown.out.2 with ⟨h0, _⟩ | ⟨_, _, _, h0, _⟩
              · cases h0; rfl
              · cases h0
            subst hoc0
            replace Hnw := Lib.hid (show RisesAs (([] : List Txt).take 0 ++ key :: ([] : List Txt).drop 0) _ from Hnw.out)
            simp only [if_true, Nat.sub_self] at hcF
            have hbe : Below wr.heap.size wr (wr.alloc (.cells #[] 9)) := (Below.refl _ _).alloc (Nat.le_refl _) _
            go_wp2_with (first | (at_builtin; refine wpList_append_own_none rfl _ _ 39 rfl wr.heap.size 9 i0 1 Tryz.underlying39 hi _ 0 [] rfl (owns_empty wr) rfl ?_))
            have hown1 := owns_empty wr
            have hmono := hbe.size
            obtain ⟨w1, hw1⟩ : ∃ w1, wr.alloc (.cells #[] 9) = w1 := ⟨_, rfl⟩
            rw [hw1] at hbe hown1 hmono ⊢
            have hownO := Lib.hid (own_cut (own_keeps hown.out hbe) (Nat.le_refl 0) : w1.ownsRow w.heap.size 9 1 (.slice none 0 0) 0 ((([] : List Txt).map encStr).take (0 * 1)))
            have hbw := Lib.hid (hb.out.trans (hbe.mono hb.out.size))
            obtain ⟨gr, hgr⟩ : ∃ gr, wr.heap.size = gr := ⟨_, rfl⟩
            rw [hgr] at hown1 ⊢
            have hownR := Lib.hid hown1
            have hrl := (hown1.lt gr rfl).2
            have ck : w1.cell? ⟨b, off + k * 4 + 1, none⟩ = some (S key) := (hbw.out.cell (p := ⟨b, off + k * 4 + 1, none⟩) hbl).trans Hc1.out
            unfold S at ck
            have hbase1 := hbw.out.size
            clear hown1 hbe hown hb hcF hw1 hgr
            have hbne : some b ≠ (Value.slice none 0 0).ownBlock := by simp [Value.ownBlock] <;> omega
            have hrne : (Value.slice (some ⟨gr, 0, none⟩) 0 0).ownBlock ≠ (Value.slice none 0 0).ownBlock := by simp [Value.ownBlock] <;> omega
            go_wp2_with fail
            go_region_held3 (fun w' => w'.cell? ⟨b, off + k * 4 + 1, none⟩ = some (.string ⟨key.toArray⟩))
              (first | go_keep | exact ck3.out | exact ck2.out)
              (first
                | (refine step_append_lies _ (by rfl) (.tmp 54) (.tmp 60) 39 (by rfl) w.heap.size 9 i0 (.string ⟨#[]⟩) 1 16 Tryz.underlying39 hi hz0 hz1 hz2 rfl (by decide) (.slice none 0 0) (0) ((([] : List Txt).map encStr).take (0 * 1)) (by rfl) ((hownO.out.alloc _).drew) ⟨w1.heap.size, 0, none⟩ 1 1 [.string ⟨key.toArray⟩] (by rfl) (by rfl) (World.news_of_block (cs := #[.string ⟨key.toArray⟩]) (t := 9) (fr := (0, 0)) (heap_alloc_new w1 _)) (by simp [Value.oneCell']) (by omega) (by unfold maxLen; omega) (by omega) (by simp; omega) (w1.heap.size + 1) (by simp) ?_; intro g2 cap2 w2 hown2 hgrow2 hat2 hlt2; have hbne2 := (hown2.lt g2 rfl).1; have ck2 := Lib.hid ((hgrow2.cell_far ⟨b, off + k * 4 + 1, none⟩ (by simp; omega) hbne).trans ((((Below.refl w1.heap.size w1).alloc (Nat.le_refl _) _).cell (p := ⟨b, off + k * 4 + 1, none⟩) (by show b < _; omega)).trans ck)); have hs2 := hgrow2.size; simp at hs2)
                | (refine step_append_own (by rfl) (.tmp 61) (.tmp 62) 39 (by rfl) w.heap.size 9 i0 (.string ⟨#[]⟩) 1 16 Tryz.underlying39 hi hz0 hz1 hz2 rfl (by decide) (.slice (some ⟨g2, 0, none⟩) (0 + 1) cap2) (0 + 1) _ (by rfl) hown2 ⟨gr, 0, none⟩ 0 0 _ (by rfl) (by simp) (World.ownsRow.cells (g := gr) ((hownR.out.alloc _).drew.kept hgrow2 (Or.inr hrne)) rfl) (by intro u hu; simp at hu) (by unfold maxLen; omega) (by omega) (by omega) ?_; intro v3 w3 hown3 hgrow3; have ck3 := Lib.hid ((hgrow3.cell_far ⟨b, off + k * 4 + 1, none⟩ (by show b < _; omega) (by simp [Value.ownBlock] <;> omega)).trans ck2.out)))
            have hb3 := Lib.hid (((((hbw.out.alloc hbase1 _).drew).grown hgrow2 (by simp; omega) (fun k hk => by simp [Value.ownBlock] at hk <;> omega)).grown hgrow3 (by omega) (fun k hk => (hown2.lt k hk).1)) : Below w.heap.size w w3)
            obtain ⟨out', hout'⟩ : ∃ o, ([] : List Txt).take (0) ++ key :: ([] : List Txt).drop (0) = o := ⟨_, rfl⟩
            have hT := texts_new (m := 0) (key := key) (out := []) (Nat.le_refl _) (by omega) (by simp) hown3
            rw [hout'] at hT Hnw
            have hlen' : out'.length ≤ k + 1 := by rw [← hout']; simp <;> omega
            obtain ⟨A3, c3, rfl, hc3, _, _⟩ := own_form hT
            have Hfin := Lib.hid (show KeysInv l w (k + 1) out' (.slice A3 out'.length c3) w3 from ⟨Hnw.out, hlen', hT, hb3.out⟩)
            clear hT hb3 hown3 hown2 hgrow2 hgrow3 hout' Hnw hownO hownR ck2 ck3 ck
            go_wp2_with fail
            exact ⟨⟨k + 1, out', _, c3, by omega, by go_num, rfl, Hfin.out⟩, by simp [intOf]; omega⟩
          · have hcF := cut_tail 39 9 Tryz.underlying39 hi hz1 (some ⟨g, 0, none⟩) out.length oc out.length (Nat.le_refl _)
            have hcH := cut_head 39 9 Tryz.underlying39 hi (some ⟨g, 0, none⟩) out.length oc out.length (Nat.le_refl _) hoc1
            obtain ⟨ad, had⟩ : ∃ ad : Addr, (if oc = out.length then (⟨g, 0, none⟩ : Addr) else ⟨g, out.length, none⟩) = ad := ⟨_, rfl⟩
            have hif : (if oc = out.length then (some ⟨g, 0, none⟩ : Option Addr) else (some ⟨g, 0, none⟩ : Option Addr).map (·.add out.length)) = some ad := by rw [← had]; split <;> simp [add_zero_addr]
            simp only [hif, Nat.sub_self] at hcF
            have htl := tail_at hown.out (Nat.le_refl _) hoc1
            unfold TailAt at htl
            rw [had] at htl
            have Htl := Lib.hid htl
            clear hif had htl
            have hbe : Below wr.heap.size wr (wr.alloc (.cells #[] 9)) := (Below.refl _ _).alloc (Nat.le_refl _) _
            go_wp2_with (first | (at_builtin; refine wpList_append_own _ rfl _ _ 39 rfl wr.heap.size 9 i0 (.string ⟨#[]⟩) 1 16 Tryz.underlying39 hi hz0 hz1 hz2 rfl (by decide) _ 0 [] rfl (owns_empty wr) ad 0 (oc - out.length) [] rfl ?c1b ?c2b ?c3b ?c4b ?c5b ?c6b ?_))
            try case c1b => simp
            try case c2b => (intro j u hu; simp at hu)
            try case c3b => (intro u hu; simp at hu)
            try case c4b => unfold maxLen; omega
            try case c5b => omega
            try case c6b => simp
            intro v1 w1 hown1 hgrow1 hnil1
            have hb1 : Below wr.heap.size wr w1 := hbe.grown hgrow1 (by simp) (fun k hk => by cases hk; exact Nat.le_refl _)
            have hownO := Lib.hid (own_cut (own_keeps hown.out hb1) (Nat.le_refl _) : w1.ownsRow w.heap.size 9 1 (.slice (some ⟨g, 0, none⟩) out.length oc) out.length ((out.map encStr).take (out.length * 1)))
            have hbw := Lib.hid (hb.out.trans (hb1.mono hb.out.size))
            obtain ⟨gr, cr, rfl, hgr⟩ : ∃ gr cr, v1 = .slice (some ⟨gr, 0, none⟩) 0 cr ∧ wr.heap.size ≤ gr := by
              rcases hown1.2 with ⟨h0, _⟩ | ⟨g', c', _, h0, h1, _⟩
              · exact (hnil1 h0).elim
              · exact ⟨g', c', h0, h1⟩
            have hownR := Lib.hid hown1
            have hrl := (hown1.lt gr rfl).2
            have hmono := hb1.size
            have ck : w1.cell? ⟨b, off + k * 4 + 1, none⟩ = some (S key) := (hbw.out.cell (p := ⟨b, off + k * 4 + 1, none⟩) hbl).trans Hc1.out
            unfold S at ck
            have hgl := (hown.out.lt g rfl).2
            have hbase1 := hbw.out.size
            clear hown1 hgrow1 hnil1 hbe hb1 hown hb Htl hcF
            have hbne : some b ≠ (Value.slice (some ⟨g, 0, none⟩) out.length oc).ownBlock := by simp [Value.ownBlock] <;> omega
            have hrne : (Value.slice (some ⟨gr, 0, none⟩) 0 cr).ownBlock ≠ (Value.slice (some ⟨g, 0, none⟩) out.length oc).ownBlock := by simp [Value.ownBlock] <;> omega
            go_wp2_with fail
            go_region_held3 (fun w' => w'.cell? ⟨b, off + k * 4 + 1, none⟩ = some (.string ⟨key.toArray⟩))
              (first | go_keep | exact ck3.out | exact ck2.out)
              (first
                | (refine step_append_lies _ (by rfl) (.tmp 54) (.tmp 60) 39 (by rfl) w.heap.size 9 i0 (.string ⟨#[]⟩) 1 16 Tryz.underlying39 hi hz0 hz1 hz2 rfl (by decide) (.slice (some ⟨g, 0, none⟩) out.length oc) (out.length) ((out.map encStr).take (out.length * 1)) (by rfl) ((hownO.out.alloc _).drew) ⟨w1.heap.size, 0, none⟩ 1 1 [.string ⟨key.toArray⟩] (by rfl) (by rfl) (World.news_of_block (cs := #[.string ⟨key.toArray⟩]) (t := 9) (fr := (0, 0)) (heap_alloc_new w1 _)) (by simp [Value.oneCell']) (by omega) (by unfold maxLen; omega) (by omega) (by simp; omega) (w1.heap.size + 1) (by simp) ?_; intro g2 cap2 w2 hown2 hgrow2 hat2 hlt2; have hbne2 := (hown2.lt g2 rfl).1; have ck2 := Lib.hid ((hgrow2.cell_far ⟨b, off + k * 4 + 1, none⟩ (by simp; omega) hbne).trans ((((Below.refl w1.heap.size w1).alloc (Nat.le_refl _) _).cell (p := ⟨b, off + k * 4 + 1, none⟩) (by show b < _; omega)).trans ck)); have hs2 := hgrow2.size; simp at hs2)
                | (refine step_append_own (by rfl) (.tmp 61) (.tmp 62) 39 (by rfl) w.heap.size 9 i0 (.string ⟨#[]⟩) 1 16 Tryz.underlying39 hi hz0 hz1 hz2 rfl (by decide) (.slice (some ⟨g2, 0, none⟩) (out.length + 1) cap2) (out.length + 1) _ (by rfl) hown2 ⟨gr, 0, none⟩ 0 cr _ (by rfl) (by simp) (World.ownsRow.cells (g := gr) ((hownR.out.alloc _).drew.kept hgrow2 (Or.inr hrne)) rfl) (by intro u hu; simp at hu) (by unfold maxLen; omega) (by omega) (by omega) ?_; intro v3 w3 hown3 hgrow3; have ck3 := Lib.hid ((hgrow3.cell_far ⟨b, off + k * 4 + 1, none⟩ (by show b < _; omega) (by simp [Value.ownBlock] <;> omega)).trans ck2.out)))
            have hb3 := Lib.hid (((((hbw.out.alloc hbase1 _).drew).grown hgrow2 (by simp; omega) (fun k hk => by simp [Value.ownBlock] at hk <;> omega)).grown hgrow3 (by omega) (fun k hk => (hown2.lt k hk).1)) : Below w.heap.size w w3)
            obtain ⟨out', hout'⟩ : ∃ o, out.take (out.length) ++ key :: out.drop (out.length) = o := ⟨_, rfl⟩
            have hT := texts_new (m := out.length) (key := key) (Nat.le_refl _) (by omega) (by simp) hown3
            rw [hout'] at hT Hnw
            have hlen' : out'.length ≤ k + 1 := by rw [← hout']; simp <;> omega
            obtain ⟨A3, c3, rfl, hc3, _, _⟩ := own_form hT
            have Hfin := Lib.hid (show KeysInv l w (k + 1) out' (.slice A3 out'.length c3) w3 from ⟨Hnw.out, hlen', hT, hb3.out⟩)
            clear hT hb3 hown3 hown2 hgrow2 hgrow3 hout' Hnw hownO hownR ck2 ck3 ck
            go_wp2_with fail
            exact ⟨⟨k + 1, out', _, c3, by omega, by go_num, rfl, Hfin.out⟩, by simp [intOf]; omega⟩
    · obtain rfl : k = l.length := by omega
      obtain ⟨hr, _, hown, hb⟩ := hinv.out
      rw [List.take_of_length_le (Nat.le_refl _)] at hr
      have Hd := Lib.hid (show KeysDone l w (.returned (.slice oa out.length oc)) wr from ⟨_, rfl, by rw [← rises_end hr]; exact hown, hb⟩)
      clear hr hown hb hinv
      go_wp2_with fail
      go_ret
      exact Hd.out
end Go.Proofs.YtahckodhnkloeaaGreatDoor

/- Walks: markText, markAct. -/
import Derived.Test.YtahckodhnkloeaaGreatDoorOf
import Derived.Laws.Tables
import Derived.Laws.Rows
import Derived.Laws.CopyOwn
namespace Go.Proofs.YtahckodhnkloeaaGreatDoor
open Go Go.RowKit

theorem conv_eight (w : World) (a b c d e f g h : Int) : (convert 106 9 (.slice (some ⟨w.heap.size, 0, none⟩) 8 8)).run Tryz.prog (w.alloc (.cells #[.int .u8 a, .int .u8 b, .int .u8 c, .int .u8 d, .int .u8 e, .int .u8 f, .int .u8 g, .int .u8 h] 5)) = .ok (.string ⟨#[UInt8.ofNat a.toNat, UInt8.ofNat b.toNat, UInt8.ofNat c.toNat, UInt8.ofNat d.toNat, UInt8.ofNat e.toNat, UInt8.ofNat f.toNat, UInt8.ofNat g.toNat, UInt8.ofNat h.toNat]⟩) (w.alloc (.cells #[.int .u8 a, .int .u8 b, .int .u8 c, .int .u8 d, .int .u8 e, .int .u8 f, .int .u8 g, .int .u8 h] 5)) := by
  rw [run_convert_bytes_string _ _ _ _ _ _ _ Tryz.underlying106 Tryz.underlying5 Tryz.underlying9]
  rw [run_bytesToString _ ⟨w.heap.size, 0, none⟩ 8 8 [a, b, c, d, e, f, g, h] (by simp [go_sem])]
  rfl

/-- The mark of a place, as a text. -/
def markT (k i : Int) : Txt := [35, UInt8.ofNat (k % 256).toNat, UInt8.ofNat (k / 256 % 256).toNat, UInt8.ofNat (k / 65536 % 256).toNat, 47, UInt8.ofNat (i % 256).toNat, UInt8.ofNat (i / 256 % 256).toNat, UInt8.ofNat (i / 65536 % 256).toNat]

set_option maxRecDepth 100000 in
theorem markText_calls (k i : Int) (w : World) : Calls Tryz.prog 122 #[.int .i64 k, .int .i64 i] w fun e w' => e = .returned (S (markT k i)) ∧ Below w.heap.size w w' := by
  have hcv := conv_eight
  go_enter Tryz.func122, Tryz.ntmps122
  go_wp2_with fail
  go_ret
  exact ⟨rfl, up_alloc (Below.refl _ _)⟩

theorem row_set {w : World} {g : Nat} {old : Array Value} {t : TypeId} (h : w.heap[g]? = some (.cells old t (0, 0))) (cs : Array Value) : (w.setRow g cs).heap[g]? = some (.cells cs t (0, 0)) := by
  simp [World.setRow, Array.getElem?_modify, h]
/-- The mark of a place in a list of acts. -/
def markA (k i : Int) : Act := ⟨0, markT k i, [], 0⟩

set_option maxRecDepth 100000 in
theorem markAct_calls (k i : Int) (w : World) : Calls Tryz.prog 68 #[.int .i64 k, .int .i64 i] w fun e w' => e = .returned (markA k i).agg ∧ Below w.heap.size w w' := by
  go_enter Tryz.func68, Tryz.ntmps68
  go_wp2_with fail
  refine (markText_calls k i _).mono ?_
  rintro e w1 ⟨rfl, hb⟩
  obtain ⟨t, ht⟩ : ∃ t, markT k i = t := ⟨_, rfl⟩
  rw [ht]
  have Ht := Lib.hid ht; clear ht
  have Hb := Lib.hid (up_alloc hb)
  have hn := hb.block w.heap.size (by simp)
  have hn' : w1.heap[w.heap.size]? = some (.cells #[.int .u8 0, .string ⟨#[]⟩, .string ⟨#[]⟩, .int .i64 0] 51 (0, 0)) := hn.trans (heap_alloc_new _ _)
  have Hst := Lib.hid (below_setRow (g := w.heap.size) Hb.out (Nat.le_refl _) #[.int .u8 0, .string ⟨t.toArray⟩, .string ⟨#[]⟩, .int .i64 0])
  clear hn hb
  unfold S
  go_wp2_with (first | (refine wpList_store_row rfl 51 (.tmp 4) (.tmp 8) rfl w.heap.size _ rfl rfl 51 _ hn' ?i1 ?i2 ?i3 ?_))
  case i1 => kernel_rfl
  case i2 => rfl
  case i3 => simp [Value.oneCell']
  go_wp2_with fail
  refine bodyPost_ret (results_cell_row rfl _ _ w.heap.size 51 _ (0, 0) _ rfl (row_set hn' _) Tryz.underlying51 rfl (by kernel_rfl)) rfl ?_
  exact ⟨by unfold markA; rw [Ht.out]; rfl, Hst.out⟩
end Go.Proofs.YtahckodhnkloeaaGreatDoor

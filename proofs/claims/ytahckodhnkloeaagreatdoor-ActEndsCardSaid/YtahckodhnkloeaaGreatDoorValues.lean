/- Walk: the law ActValues: of any number and any text what they stand for is just what the document tells. -/
import Derived.Test.YtahckodhnkloeaaGreatDoorAwake
namespace Go.Proofs.YtahckodhnkloeaaGreatDoor
open Go Go.RowKit

set_option maxRecDepth 100000 in
set_option maxHeartbeats 2000000 in
theorem values_calls (n : Int) (s : ByteArray) (hs : s.size ≤ 140737488351232) (w : World) (E : Env w) : Calls Tryz.prog 35 #[.int .i64 n, .string s] w fun e w' => e = .returned (.bool true) ∧ Below w.heap.size w w' := by
  have HE := Lib.hid E; clear E
  go_enter Tryz.func35, Tryz.ntmps35
  go_wp2_with fail
  refine (awake_calls w HE.out).mono ?_
  rintro e w1 ⟨rfl, hb1⟩
  have Hb1 := Lib.hid hb1; clear hb1
  by_cases h60 : 60 < s.size
  · go_wp2_with fail
    go_ret
    exact ⟨rfl, Hb1.out⟩
  · go_wp2_with fail
    refine (value_calls n w1 (HE.out.keeps Hb1.out)).mono ?_
    rintro e w2 ⟨rfl, hb2⟩
    have Hb2 := Lib.hid (up_trans Hb1.out hb2); clear hb2
    go_wp2_with fail
    refine (refValue_calls n w2).mono ?_
    rintro e w3 ⟨rfl, hb3⟩
    have Hb3 := Lib.hid (up_trans Hb2.out hb3); clear hb3
    generalize Lib.itoa (cutN n) = t
    unfold S
    go_wp2_with fail
    refine (number_calls s hs w3 (HE.out.keeps Hb3.out)).mono ?_
    rintro e w4 ⟨rfl, hb4⟩
    have Hb4 := Lib.hid (up_trans Hb3.out hb4); clear hb4
    go_wp2_with fail
    refine (refNumber_calls s hs w4).mono ?_
    rintro e w5 ⟨rfl, rfl⟩
    go_wp2_with fail
    go_ret
    exact ⟨rfl, Hb4.out⟩
end Go.Proofs.YtahckodhnkloeaaGreatDoor

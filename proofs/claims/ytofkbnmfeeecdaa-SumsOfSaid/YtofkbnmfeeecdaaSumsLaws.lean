/- The laws of layer 2, walked: each answers true, and leaves all that was there as it was. -/
import Derived.Test.YtofkbnmfeeecdaaSumsDoes
namespace Go.Proofs.Ytofkbnmfeeecdaa
open Go.RowKit

set_option maxHeartbeats 400000 in
theorem walkSumsOf (s : ByteArray) (sum : Int) (w : World) (hs : s.size ≤ maxLen) (hb : 0 ≤ sum ∧ sum ≤ 4294967295) :
    Calls Try.prog 3 #[.string s, .int .u32 sum] w fun e w' => e = .returned (.bool true) ∧ Below w.heap.size w w' := by
  by_cases h5 : (50000 : Int) < (s.size : Int)
  · go_enter Try.func3, Try.ntmps3
    go_wp2_with fail
    go_ret
    exact ⟨rfl, Below.refl _ _⟩
  · go_enter Try.func3, Try.ntmps3
    go_wp2_with fail
    refine (sum_any s _ hs).mono ?_
    rintro e w1 ⟨rfl, hb1⟩
    have Hb1 := Lib.hid hb1
    clear hb1
    go_wp2_with fail
    refine (ref_sum_any s _ hs).mono ?_
    rintro e w2 ⟨rfl, hb2⟩
    have Hb2 := Lib.hid (Hb1.out.trans (hb2.mono Hb1.out.size))
    clear hb2 Hb1
    go_wp2_with fail
    refine (more_any sum s _ hb.1 (by omega) hs).mono ?_
    rintro e w3 ⟨rfl, hb3⟩
    have Hb3 := Lib.hid (Hb2.out.trans (hb3.mono Hb2.out.size))
    clear hb3 Hb2
    go_wp2_with fail
    refine (ref_more_any sum s _ hb.1 (by omega) hs).mono ?_
    rintro e w4 ⟨rfl, hb4⟩
    have Hb4 := Lib.hid (Hb3.out.trans (hb4.mono Hb3.out.size))
    clear hb4 Hb3
    go_wp2_with fail
    refine (does_any _).mono ?_
    rintro e w5 ⟨rfl, hb5⟩
    have Hb5 := Lib.hid (Hb4.out.trans (hb5.mono Hb4.out.size))
    clear hb5 Hb4
    go_wp2_with fail
    go_ret
    exact ⟨rfl, Hb5.out⟩
end Go.Proofs.Ytofkbnmfeeecdaa

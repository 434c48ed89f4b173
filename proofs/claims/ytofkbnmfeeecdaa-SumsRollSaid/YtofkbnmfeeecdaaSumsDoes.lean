/- The chapter's examples, as the statements of layer 2 ask them: 'does' answers true. -/
import Derived.Test.YtofkbnmfeeecdaaSums
namespace Go.Proofs.Ytofkbnmfeeecdaa
open Go.RowKit

theorem sum_at (l : List UInt8) (n : Int) (hl : l.length ≤ 100) (h : Adl.sum l = n) (w : World) :
    Calls Try.prog 10 #[.string ⟨l.toArray⟩] w fun e w' => e = .returned (.int .u32 n) ∧ Below w.heap.size w w' := by
  subst h
  exact sum_any ⟨l.toArray⟩ w (by show l.toArray.size ≤ _; unfold maxLen; simp; omega)
theorem more_at (s : Int) (l : List UInt8) (n : Int) (h0 : 0 ≤ s ∧ s < 4294967296) (hl : l.length ≤ 100) (h : Adl.more s l = n) (w : World) :
    Calls Try.prog 12 #[.int .u32 s, .string ⟨l.toArray⟩] w fun e w' => e = .returned (.int .u32 n) ∧ Below w.heap.size w w' := by
  subst h
  exact more_any s ⟨l.toArray⟩ w h0.1 h0.2 (by show l.toArray.size ≤ _; unfold maxLen; simp; omega)
theorem roll_abc (w : World) :
    Calls Try.prog 15 #[.int .u32 38600999, .int .i64 3, .int .u8 97, .int .u8 100] w fun e w' => e = .returned (.int .u32 (Adl.sum [98, 99, 100])) ∧ Below w.heap.size w w' :=
  roll_any 38600999 3 97 100 w (by decide) (by decide)
theorem bytes_at (w : World) :
    Calls Try.prog 17 #[.int .u32 300286872] w fun e w' => e = .returned (.string ⟨#[17, 230, 3, 152]⟩) ∧ Below w.heap.size w w' :=
  bytes_any 300286872 w (by decide) (by decide)

set_option maxHeartbeats 400000 in
theorem does_any (w : World) :
    Calls Try.prog 14 #[] w fun e w' => e = .returned (.bool true) ∧ Below w.heap.size w w' := by
  go_enter Try.func14, Try.ntmps14
  go_wp2_with fail
  refine (sum_at [97, 98, 99] 38600999 (by decide) (by decide) _).mono ?_
  rintro e w1 ⟨rfl, hb1⟩
  have Hb1 := Lib.hid hb1
  clear hb1
  go_wp2_with fail
  refine (sum_at [87, 105, 107, 105, 112, 101, 100, 105, 97] 300286872 (by decide) (by decide) _).mono ?_
  rintro e w2 ⟨rfl, hb2⟩
  have Hb2 := Lib.hid (Hb1.out.trans (hb2.mono Hb1.out.size))
  clear hb2 Hb1
  go_wp2_with fail
  refine (sum_at [97, 98] (Adl.sum [97, 98]) (by decide) (by decide) _).mono ?_
  rintro e w3 ⟨rfl, hb3⟩
  have Hb3 := Lib.hid (Hb2.out.trans (hb3.mono Hb2.out.size))
  clear hb3 Hb2
  go_wp2_with fail
  refine (more_at _ [99] 38600999 (Adl.sum_in _) (by decide) (by decide) _).mono ?_
  rintro e w4 ⟨rfl, hb4⟩
  have Hb4 := Lib.hid (Hb3.out.trans (hb4.mono Hb3.out.size))
  clear hb4 Hb3
  go_wp2_with fail
  refine (roll_abc _).mono ?_
  rintro e w5 ⟨rfl, hb5⟩
  have Hb5 := Lib.hid (Hb4.out.trans (hb5.mono Hb4.out.size))
  clear hb5 Hb4
  go_wp2_with fail
  refine (sum_at [98, 99, 100] (Adl.sum [98, 99, 100]) (by decide) rfl _).mono ?_
  rintro e w6 ⟨rfl, hb6⟩
  have Hb6 := Lib.hid (Hb5.out.trans (hb6.mono Hb5.out.size))
  clear hb6 Hb5
  go_wp2_with fail
  refine (bytes_at _).mono ?_
  rintro e w7 ⟨rfl, hb7⟩
  have Hb7 := Lib.hid (Hb6.out.trans (hb7.mono Hb6.out.size))
  clear hb7 Hb6
  go_wp2_with fail
  go_ret
  exact ⟨rfl, Hb7.out⟩
end Go.Proofs.Ytofkbnmfeeecdaa

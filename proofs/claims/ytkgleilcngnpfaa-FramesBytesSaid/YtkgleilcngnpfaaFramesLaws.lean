/- The statements of layer 4 that ask the document's answer, walked. -/
import Derived.Test.YtkgleilcngnpfaaFramesRef2
import Derived.Test.YtkgleilcngnpfaaKnown
namespace Go.Proofs.Ytkgleilcngnpfaa
open Go.RowKit

/-- 'Frame', whatever the payload: both functions hand back one and the same. -/
theorem frame_both (p : ByteArray) : ∃ (A : ByteArray) (b : Int), ∀ W : World,
    Calls Try.prog 13 #[.string p] W (fun e w' => e = .returned (.tuple #[.string A, .int .i64 b]) ∧ Below W.heap.size W w') ∧
    Calls Try.prog 14 #[.string p] W (fun e w' => e = .returned (.tuple #[.string A, .int .i64 b]) ∧ Below W.heap.size W w') := by
  by_cases h : p.size ≤ 16384
  · exact ⟨_, _, fun W => ⟨frame_short p W h, ref_frame_short p W h⟩⟩
  · exact ⟨_, _, fun W => ⟨frame_long p W (by omega), ref_frame_long p W (by omega)⟩⟩
theorem nextR_form (l : List UInt8) (k : Nat) : ∃ (A : ByteArray) (b : Int) (c : Bool), nextR l k = .tuple #[.string A, .int .i64 b, .bool c] := by
  unfold nextR
  cases Frm.nextAt (l.drop k) with
  | none => exact ⟨_, _, _, rfl⟩
  | some p => exact ⟨_, _, _, rfl⟩
/-- 'Next', at whatever place: both functions hand back one and the same. -/
theorem next_both (s : ByteArray) (k : Int) (hm : s.size ≤ 140737488355328) : ∃ (A : ByteArray) (b : Int) (c : Bool), ∀ W : World,
    Calls Try.prog 15 #[.string s, .int .i64 k] W (fun e w' => e = .returned (.tuple #[.string A, .int .i64 b, .bool c]) ∧ Below W.heap.size W w') ∧
    Calls Try.prog 16 #[.string s, .int .i64 k] W (fun e w' => e = .returned (.tuple #[.string A, .int .i64 b, .bool c]) ∧ Below W.heap.size W w') := by
  by_cases h : 0 ≤ k ∧ k ≤ s.size
  · obtain ⟨n, rfl⟩ := Int.eq_ofNat_of_zero_le h.1
    obtain ⟨A, b, c, e⟩ := nextR_form s.data.toList n
    exact ⟨A, b, c, fun W => ⟨by rw [← e]; exact next_in s n W hm (by omega), by rw [← e]; exact ref_next_in s n W hm (by omega)⟩⟩
  · exact ⟨_, _, _, fun W => ⟨next_out s k W (by omega), ref_next_out s k W hm (by omega)⟩⟩

set_option maxHeartbeats 1000000 in
theorem walkFramesTell (p t : ByteArray) (k : Int) (w : World) (_hp : p.size ≤ maxLen) (_ht : t.size ≤ maxLen) (hk : -9223372036854775808 ≤ k ∧ k ≤ 9223372036854775807) :
    Calls Try.prog 3 #[.string p, .string t, .int .i64 k] w fun e w' => e = .returned (.bool true) ∧ Below w.heap.size w w' := by
  by_cases hc : (p.size : Int) ≤ 17000 ∧ (t.size : Int) ≤ 1500
  · obtain ⟨c1, c2⟩ := hc
    obtain ⟨A, b, hF⟩ := frame_both p
    obtain ⟨X, i, one, hN⟩ := next_both t k (by omega)
    have hR := fun W : World => resync_any t k W (by omega) hk
    have hR2 := fun W : World => ref_resync_any t k W (by omega) hk
    generalize Frm.resync t.data.toList k.toNat = r at *
    have HF := Lib.hid hF
    have HN := Lib.hid hN
    have HR := Lib.hid hR
    have HR2 := Lib.hid hR2
    clear hF hN hR hR2
    go_enter Try.func3, Try.ntmps3
    go_wp2_with fail
    refine (HF.out _).1.mono ?_
    rintro e w1 ⟨rfl, hb1⟩
    have Hb1 := Lib.hid hb1
    clear hb1
    go_wp2_with fail
    refine (HF.out _).2.mono ?_
    rintro e w2 ⟨rfl, hb2⟩
    have Hb2 := Lib.hid (Hb1.out.trans (hb2.mono Hb1.out.size))
    clear hb2 Hb1
    go_wp2_with fail
    refine (HN.out _).1.mono ?_
    rintro e w3 ⟨rfl, hb3⟩
    have Hb3 := Lib.hid (Hb2.out.trans (hb3.mono Hb2.out.size))
    clear hb3 Hb2
    go_wp2_with fail
    refine (HN.out _).2.mono ?_
    rintro e w4 ⟨rfl, hb4⟩
    have Hb4 := Lib.hid (Hb3.out.trans (hb4.mono Hb3.out.size))
    clear hb4 Hb3
    go_wp2_with fail
    refine (HR.out _).mono ?_
    rintro e w5 ⟨rfl, hb5⟩
    have Hb5 := Lib.hid (Hb4.out.trans (hb5.mono Hb4.out.size))
    clear hb5 Hb4
    go_wp2_with fail
    refine (HR2.out _).mono ?_
    rintro e w6 ⟨rfl, hb6⟩
    have Hb6 := Lib.hid (Hb5.out.trans (hb6.mono Hb5.out.size))
    clear hb6 Hb5
    go_wp2_with fail
    refine (known_any _).mono ?_
    rintro e w7 ⟨rfl, hb7⟩
    have Hb7 := Lib.hid (Hb6.out.trans (hb7.mono Hb6.out.size))
    clear hb7 Hb6
    go_wp2_with fail
    go_ret
    exact ⟨rfl, Hb7.out⟩
  · have hd : (decide ((17000 : Int) < p.size) || decide ((1500 : Int) < t.size)) = true := by simp; omega
    go_enter Try.func3, Try.ntmps3
    go_wp2_with fail
    all_goals
      refine (known_any _).mono ?_
      rintro e w4 ⟨rfl, hb4⟩
      have Hb4 := Lib.hid hb4
      clear hb4
      go_wp2_with fail
      go_ret
      exact ⟨rfl, Hb4.out⟩

set_option maxHeartbeats 1000000 in
theorem walkFramesRow (t : ByteArray) (w : World) (_ht : t.size ≤ maxLen) :
    Calls Try.prog 4 #[.string t] w fun e w' => e = .returned (.bool true) ∧ Below w.heap.size w w' := by
  by_cases c1 : (t.size : Int) ≤ 40000
  · have hlen : (Frm.whole t.size t.data.toList).1.length ≤ 40000 := by
      have h : ∀ (f : Nat) (d : List UInt8), (Frm.whole f d).1.length ≤ f := by
        intro f
        induction f with
        | zero => intro d; simp [Frm.whole]
        | succ f ih =>
          intro d
          unfold Frm.whole
          cases Frm.nextAt d with
          | none => simp
          | some p => simp only [List.length_cons]; have := ih (d.drop (p.length + 8)); omega
      have := h t.size t.data.toList
      omega
    have hW := fun W : World => whole_any t W (by omega)
    have hW2 := fun W : World => ref_whole04_any t W (by omega)
    have hl2 : ((Frm.whole t.size t.data.toList).1.map strOf).length ≤ 9223372036854775807 := by rw [List.length_map]; omega
    clear hlen
    generalize (Frm.whole t.size t.data.toList).1.map strOf = l at *
    generalize (Frm.whole t.size t.data.toList).2 = r at *
    have HW := Lib.hid hW
    have HW2 := Lib.hid hW2
    clear hW hW2
    go_enter Try.func4, Try.ntmps4
    go_wp2_with fail
    refine (HW.out _).mono ?_
    rintro e w1 ⟨⟨v1, rfl, hown1⟩, hb1⟩
    have Hrd1 := Lib.hid hown1.rd
    have Hb1 := Lib.hid hb1
    clear hb1 hown1
    go_wp2_with fail
    refine (HW2.out _).mono ?_
    rintro e w2 ⟨⟨v2, rfl, hown2⟩, hb2⟩
    have Hrd2 := Lib.hid hown2.rd
    have Hrd1' := Lib.hid (Hrd1.out.below hb2)
    have Hb2 := Lib.hid (Hb1.out.trans (hb2.mono Hb1.out.size))
    clear hb2 hown2 Hb1 Hrd1
    go_wp2_with fail
    refine (sameTexts_any _ _ l l _ Hrd1'.out Hrd2.out hl2 hl2).mono ?_
    rintro e w3 ⟨rfl, hb3⟩
    rw [decide_eq_true (rfl : l = l)]
    have Hb3 := Lib.hid (Hb2.out.trans (hb3.mono Hb2.out.size))
    clear hb3 Hb2
    go_wp2_with fail
    refine (known_any _).mono ?_
    rintro e w4 ⟨rfl, hb4⟩
    have Hb4 := Lib.hid (Hb3.out.trans (hb4.mono Hb3.out.size))
    clear hb4 Hb3
    go_wp2_with fail
    go_ret
    exact ⟨rfl, Hb4.out⟩
  · have c2 : (40000 : Int) < t.size := by omega
    go_enter Try.func4, Try.ntmps4
    go_wp2_with fail
    refine (known_any _).mono ?_
    rintro e w4 ⟨rfl, hb4⟩
    have Hb4 := Lib.hid hb4
    clear hb4
    go_wp2_with fail
    go_ret
    exact ⟨rfl, Hb4.out⟩
end Go.Proofs.Ytkgleilcngnpfaa

/- 'CursorsBytes', walked. -/
import Derived.Test.YtenbgfejonokdaaCurDoes
namespace Go.Proofs.Ytenbgfejonokdaa
set_option maxRecDepth 100000
open Go.RowKit Go.Maps
open Dsk

set_option maxHeartbeats 2000000 in
theorem cursorsBytes_any (a b : Int) (s : ByteArray) (w : World) (ha : -9223372036854775808 ≤ a ∧ a ≤ 9223372036854775807) (hb : -9223372036854775808 ≤ b ∧ b ≤ 9223372036854775807) (hs : s.size ≤ maxLen) :
    Calls Try.prog 3 #[curV a b, .string s] w fun e w' => e = .returned (.bool true) ∧ Below w.heap.size w w' := by
  have hen := fun W : World => encode_any a b W ha hb
  have hen2 := fun W : World => refEncode_any a b W ha hb
  have hde := fun W : World => decode_any s W hs
  have hde2 := fun W : World => refDecode_any s W hs
  generalize Cur.enc a b = E at hen hen2
  generalize Cur.decR s.data.toList = D at hde hde2
  obtain ⟨e1, e2⟩ := E
  obtain ⟨⟨d1, d2⟩, d3⟩ := D
  unfold curV at hen hen2 hde hde2 ⊢
  simp only at hen hen2 hde hde2
  obtain ⟨t, ht⟩ : ∃ t : ByteArray, t = ⟨e1.toArray⟩ := ⟨_, rfl⟩
  rw [← ht] at hen hen2
  have Hen := Lib.hid hen
  have Hen2 := Lib.hid hen2
  have Hde := Lib.hid hde
  have Hde2 := Lib.hid hde2
  obtain ⟨w1, hw1⟩ : ∃ w1, w1 = w.alloc (.cells #[.int .i64 a, .int .i64 b] 23 (0, 0)) := ⟨_, rfl⟩
  have Hb1 := Lib.hid (show Below w.heap.size w w1 by rw [hw1]; exact (Below.refl _ _).alloc (Nat.le_refl _) _)
  have B1 := Lib.hid (show Blk w1 w.heap.size 23 #[.int .i64 a, .int .i64 b] by rw [hw1]; exact Blk.alloc_new _ _ _)
  have HW1 := Lib.hid hw1
  clear hen hen2 hde hde2 ha hb hs ht hw1
  go_enter Try.func3, Try.ntmps3
  go_wp2_with fail
  rw [← HW1.out]
  refine (Hen.out _).mono ?_
  rintro e w2 ⟨rfl, hb⟩
  have Hb2 := Lib.hid (Hb1.out.trans (hb.mono Hb1.out.size))
  have k0 := (B1.out.below hb).cell 0
  have k1 := (B1.out.below hb).cell 1
  simp at k0 k1
  clear hb
  go_wp2_with fail
  refine (Hen2.out _).mono ?_
  rintro e w3 ⟨rfl, hb⟩
  have Hb3 := Lib.hid (Hb2.out.trans (hb.mono Hb2.out.size))
  clear hb k0 k1
  go_wp2_with fail
  refine (Hde.out _).mono ?_
  rintro e w4 ⟨rfl, hb⟩
  have Hb4 := Lib.hid (Hb3.out.trans (hb.mono Hb3.out.size))
  obtain ⟨w5, hw5⟩ : ∃ w5, w5 = w4.alloc (.cells #[.int .i64 d1, .int .i64 d2] 23 (0, 0)) := ⟨_, rfl⟩
  have B5 := Lib.hid (show Blk w5 w4.heap.size 23 #[.int .i64 d1, .int .i64 d2] by rw [hw5]; exact Blk.alloc_new _ _ _)
  have Hb5 := Lib.hid (show Below w.heap.size w w5 by rw [hw5]; exact Hb4.out.alloc Hb4.out.size _)
  have HW5 := Lib.hid hw5
  clear hb hw5
  go_wp2_with fail
  rw [← HW5.out]
  refine (Hde2.out _).mono ?_
  rintro e w6 ⟨rfl, hb⟩
  have Hb6 := Lib.hid (Hb5.out.trans (hb.mono Hb5.out.size))
  obtain ⟨w7, hw7⟩ : ∃ w7, w7 = w6.alloc (.cells #[.int .i64 d1, .int .i64 d2] 23 (0, 0)) := ⟨_, rfl⟩
  have hb67 : Below w6.heap.size w6 w7 := by rw [hw7]; exact (Below.refl _ _).alloc (Nat.le_refl _) _
  have B7 : Blk w7 w6.heap.size 23 #[.int .i64 d1, .int .i64 d2] := by rw [hw7]; exact Blk.alloc_new _ _ _
  have B5' := (B5.out.below hb).below hb67
  have k0 := B5'.cell 0
  have k1 := B5'.cell 1
  have k2 := B7.cell 0
  have k3 := B7.cell 1
  simp at k0 k1 k2 k3
  rw [hw7] at k0 k1 k2 k3
  have Hb7 := Lib.hid (Hb6.out.trans (hb67.mono Hb6.out.size))
  have HW7 := Lib.hid hw7
  clear hb hw7 hb67 B7 B5'
  go_wp2_with fail
  rw [← HW7.out]
  refine (curDoes_any _).mono ?_
  rintro e w8 ⟨rfl, hb⟩
  have Hb8 := Lib.hid (Hb7.out.trans (hb.mono Hb7.out.size))
  clear hb
  go_wp2_with fail
  go_ret
  exact ⟨rfl, Hb8.out⟩
theorem walkCursorsBytes (c : Int × Int) (s : ByteArray) (w : World) (h0 : (-9223372036854775808 ≤ c.1 ∧ c.1 ≤ 9223372036854775807) ∧ (-9223372036854775808 ≤ c.2 ∧ c.2 ≤ 9223372036854775807)) (h1 : s.size ≤ maxLen) :
    Calls Try.prog 3 #[curV c.1 c.2, .string s] w fun e w' => e = .returned (.bool true) ∧ Below w.heap.size w w' :=
  cursorsBytes_any c.1 c.2 s w h0.1 h0.2 h1
end Go.Proofs.Ytenbgfejonokdaa

/- 'CursorsNone', walked. -/
import Derived.Test.YtenbgfejonokdaaCurBack
import Derived.Test.YtenbgfejonokdaaDiskNil
namespace Go.Proofs.Ytenbgfejonokdaa
set_option maxRecDepth 100000
open Go.RowKit Go.Maps
open Dsk

section
variable {w : World} {v : Value}
set_option maxHeartbeats 1000000 in
theorem load_nil (h : NilD w v) : Calls Try.prog 20 #[v] w fun e w' => e = .returned (.tuple #[.agg #[.int .i64 0, .int .i64 0], .int .i64 1]) ∧ Below w.heap.size w w' := by
  obtain ⟨w1, hw1⟩ : ∃ w1, w1 = w.alloc (.cells #[.int .i64 0, .int .i64 0] 23 (0, 0)) := ⟨_, rfl⟩
  have hb1 : Below w.heap.size w w1 := by rw [hw1]; exact (Below.refl _ _).alloc (Nat.le_refl _) _
  have B0 := Lib.hid (show Blk w1 w.heap.size 23 #[.int .i64 0, .int .i64 0] by rw [hw1]; exact Blk.alloc_new w _ _)
  have Hrd := Lib.hid (read_nil (h.below hb1) ⟨#[99, 117, 114, 115, 111, 114]⟩)
  have HW1 := Lib.hid hw1
  have Hb1 := Lib.hid hb1
  have hz1 : w1.heap.size = w.heap.size + 1 := by rw [hw1]; simp
  clear h hb1 hw1
  go_enter Try.func20, Try.ntmps20
  go_wp2_with fail
  rw [← HW1.out]
  refine Hrd.out.mono ?_
  rintro e w2 ⟨rfl, hb2⟩
  have HZ := Lib.hid (And.intro (cur_two (B0.out.below hb2) (.int .i64 0) (.int .i64 0)) (((Hb1.out.trans (hb2.mono (by omega))).setCell (p := ⟨w.heap.size, 0, none⟩) (Nat.le_refl _) (.int .i64 0)).setCell (p := ⟨w.heap.size, 1, none⟩) (Nat.le_refl _) (.int .i64 0)))
  have bx := B0.out.below hb2
  have h0 := bx.free 0
  have h1 := bx.free 1
  have e0 := bx.cell 0
  have ee1 := bx.cell 1
  simp at e0 ee1
  clear bx hb2
  go_wp2_with fail
  generalize ((w2.setCell ⟨w.heap.size, 0, none⟩ (.int .i64 0)).setCell ⟨w.heap.size, 1, none⟩ (.int .i64 0)) = wz at HZ ⊢
  have k0 := HZ.out.1.cell 0
  have k1 := HZ.out.1.cell 1
  simp at k0 k1
  refine bodyPost_ret (v := .tuple #[.agg #[.int .i64 0, .int .i64 0], .int .i64 1]) (by simp [results, Try.results20, go_sem, k0, k1]) rfl ⟨rfl, HZ.out.2⟩
theorem save_nil (h : NilD w v) (a b : Int) : Calls Try.prog 21 #[v, .agg #[.int .i64 a, .int .i64 b]] w fun e w' => e = .returned (.int .i64 1) ∧ Below w.heap.size w w' := by
  obtain ⟨w1, hw1⟩ : ∃ w1, w1 = w.alloc (.cells #[.int .i64 a, .int .i64 b] 23 (0, 0)) := ⟨_, rfl⟩
  have hb1 : Below w.heap.size w w1 := by rw [hw1]; exact (Below.refl _ _).alloc (Nat.le_refl _) _
  have Hup := Lib.hid (up_nil (h.below hb1))
  have Hf := Lib.hid (fail_nil (h.below hb1) (-1) (.slice none 0 0))
  have HW1 := Lib.hid hw1
  have Hb1 := Lib.hid hb1
  clear h hb1 hw1
  go_enter Try.func21, Try.ntmps21
  go_wp2_with fail
  rw [← HW1.out]
  refine Hup.out.mono ?_
  rintro e w2 ⟨rfl, rfl⟩
  go_wp2_with fail
  refine Hf.out.mono ?_
  rintro e w3 ⟨rfl, hb⟩
  have Hb := Lib.hid (Hb1.out.trans (hb.mono Hb1.out.size))
  clear hb
  go_wp2_with fail
  go_ret
  exact ⟨rfl, Hb.out⟩
end
set_option maxHeartbeats 4000000 in
theorem cursorsNone_any (a b : Int) (w : World) (hc : CurOk (a, b)) : Calls Try.prog 4 #[curV a b] w fun e w' => e = .returned (.bool true) ∧ Below w.heap.size w w' := by
  have Hc := Lib.hid hc
  unfold curV
  obtain ⟨w1, hw1⟩ : ∃ w1, w1 = w.alloc (.cells #[.int .i64 a, .int .i64 b] 23 (0, 0)) := ⟨_, rfl⟩
  have Hb1 := Lib.hid (show Below w.heap.size w w1 by rw [hw1]; exact (Below.refl _ _).alloc (Nat.le_refl _) _)
  have B1 := Lib.hid (show Blk w1 w.heap.size 23 #[.int .i64 a, .int .i64 b] by rw [hw1]; exact Blk.alloc_new _ _ _)
  have HW1 := Lib.hid hw1
  clear hw1 hc
  go_enter Try.func4, Try.ntmps4
  go_wp2_with fail
  rw [← HW1.out]
  go_loopw [2, 3, 4, 5, 6] (fun _ v3 _ _ _ wr => ∃ i : Nat, v3 = .int .i64 i ∧ i ≤ 2 ∧ Below w1.heap.size w1 wr) (fun _ v3 _ _ _ _ => 2 - (intOf v3).toNat)
  case atStart => exact ⟨0, rfl, by omega, Below.refl _ _⟩
  case round =>
    obtain ⟨i, rfl, hi, hbe⟩ := hrel
    have Hbe := Lib.hid hbe
    clear hbe
    by_cases hlt : i < 2
    · have hii : (i : Int) < 2 := by omega
      by_cases hi0 : i = 0
      case' pos =>
        have t1 : ((i : Int) == 1) = false := by rw [beq_eq_false_iff_ne]; omega
        have t1' : (i == 1) = false := by rw [beq_eq_false_iff_ne]; omega
        clear hi0
        go_wp2_with fail
        obtain ⟨wI, hwI⟩ : ∃ wI, wI = wr := ⟨_, rfl⟩
        obtain ⟨u, hu⟩ : ∃ u : Value, u = .pointer none := ⟨_, rfl⟩
        have HU := Lib.hid (show NilD wI u by rw [hu]; exact .inl rfl)
        have HBe := Lib.hid (show Below w1.heap.size w1 wI by rw [hwI]; exact Hbe.out)
        rw [← hwI, ← hu]
        clear hwI hu
      case' neg =>
        have t1 : ((i : Int) == 1) = true := by rw [beq_iff_eq]; omega
        have t1' : (i == 1) = true := by rw [beq_iff_eq]; omega
        clear hi0
        go_wp2_with fail
        obtain ⟨wI, hwI⟩ : ∃ wI, wI = wr.alloc (.cells #[.int .i64 0, .int .i64 0, .bool false, .map none, .nilFunc, .slice none 0 0] 35 (0, 0)) := ⟨_, rfl⟩
        obtain ⟨u, hu⟩ : ∃ u : Value, u = .pointer (some ⟨wr.heap.size, 0, none⟩) := ⟨_, rfl⟩
        have hbw : Below wr.heap.size wr wI := by rw [hwI]; exact (Below.refl _ _).alloc (Nat.le_refl _) _
        have HU := Lib.hid (show NilD wI u by
          rw [hu, hwI]
          refine .inr ⟨_, rfl, by simp, ?_⟩
          rw [(Blk.alloc_new wr _ _).cell 3]; rfl)
        have HBe := Lib.hid (Hbe.out.trans (hbw.mono Hbe.out.size))
        rw [← hwI, ← hu]
        clear hbw hwI hu
      all_goals
        refine (load_nil HU.out).mono ?_
        rintro e w3 ⟨rfl, hb3⟩
        have HU3 := Lib.hid (HU.out.below hb3)
        have HB3 := Lib.hid (HBe.out.trans (hb3.mono HBe.out.size))
        obtain ⟨w4, hw4⟩ : ∃ w4, w4 = w3.alloc (.cells #[.int .i64 0, .int .i64 0] 23 (0, 0)) := ⟨_, rfl⟩
        have hb34 : Below w3.heap.size w3 w4 := by rw [hw4]; exact (Below.refl _ _).alloc (Nat.le_refl _) _
        have HU4 := Lib.hid (HU3.out.below hb34)
        have HB4 := Lib.hid (HB3.out.trans (hb34.mono HB3.out.size))
        have B4 := Lib.hid (show Blk w4 w3.heap.size 23 #[.int .i64 0, .int .i64 0] by rw [hw4]; exact Blk.alloc_new _ _ _)
        obtain ⟨k0, k1⟩ := blkc (B1.out.below HB4.out)
        rw [hw4] at k0 k1
        have HW4 := Lib.hid hw4
        clear hb3 hb34 hw4
        go_wp2_with fail
        rw [← HW4.out]
        refine (save_nil HU4.out a b).mono ?_
        rintro e w5 ⟨rfl, hb5⟩
        obtain ⟨k2, k3⟩ := blkc (B4.out.below hb5)
        have HB5 := Lib.hid (HB4.out.trans (hb5.mono HB4.out.size))
        clear hb5 k0 k1
        go_wp2_with fail
        go_roundw
        case rel => exact ⟨i + 1, by go_num, by omega, HB5.out⟩
        case measure => simp [intOf]; omega
    · obtain rfl : i = 2 := by omega
      go_wp2_with fail
      refine (live_new 50 wr (by omega) (by omega)).mono ?_
      rintro e w6 ⟨v, rfl, hl⟩
      obtain ⟨bd, rfl⟩ := hl.ptr
      rw [tn_new] at hl
      have H6 := Lib.hid hl
      clear hl
      go_wp2_with fail
      refine (H6.out.crashQ _ [] (keepR_none _ _) (by simp) (show (tn 50 0 false none none none []).crash [] = (0, tn 50 0 true none none none []) from rfl)).mono ?_
      rintro e w7 ⟨rfl, hl, hk⟩
      have H7 := Lib.hid hl
      clear hl hk
      go_wp2_with fail
      refine (H7.out.loadQ (show loadD (tn 50 0 true none none none []) = ((0, 0), 51) from by decide +kernel)).mono ?_
      rintro e w8 ⟨rfl, hb8⟩
      obtain ⟨w9, hw9⟩ : ∃ w9, w9 = w8.alloc (.cells #[.int .i64 0, .int .i64 0] 23 (0, 0)) := ⟨_, rfl⟩
      have hb89 : Below w8.heap.size w8 w9 := by rw [hw9]; exact (Below.refl _ _).alloc (Nat.le_refl _) _
      have B9 : Blk w9 w8.heap.size 23 #[.int .i64 0, .int .i64 0] := by rw [hw9]; exact Blk.alloc_new _ _ _
      have H9 := Lib.hid ((H7.out.keep hb8).add hb89)
      have Hb9 := Lib.hid (Hbe.out.trans (H9.out.below.mono Hbe.out.size))
      obtain ⟨k0, k1⟩ := blkc (B1.out.below Hb9.out)
      rw [hw9] at k0 k1
      have Hx := Lib.hid (show Also (fun _ => False) w8 w9 w8.heap.size from .inr ⟨Nat.le_refl _, B9.lt⟩)
      have HB9 := Lib.hid B9
      have HW9 := Lib.hid hw9
      clear hb8 hb89 B9 hw9
      go_wp2_with fail
      rw [← HW9.out]
      refine (H9.out.saveQ a b Hc.out (show saveD (tn 50 0 true none none none []) a b = (51, tn 50 0 true none none none []) from by unfold saveD; exact if_pos rfl)).mono ?_
      rintro e w10 ⟨rfl, hl, hk⟩
      obtain ⟨k2, k3⟩ := blkc (HB9.out.chg hk (fun e => e Hx.out))
      have H10 := Lib.hid hl
      clear hl hk k0 k1
      go_wp2_with fail
      refine (curDoes_any _).mono ?_
      rintro e w11 ⟨rfl, hb⟩
      have Hb11 := Lib.hid (Hb1.out.trans ((Hbe.out.trans ((H10.out.below.trans (hb.mono H10.out.size)).mono Hbe.out.size)).mono Hb1.out.size))
      clear hb k2 k3
      go_wp2_with fail
      go_ret
      exact ⟨rfl, Hb11.out⟩
theorem walkCursorsNone (c : Int × Int) (w : World) (h0 : CurOk c) :
    Calls Try.prog 4 #[curV c.1 c.2] w fun e w' => e = .returned (.bool true) ∧ Below w.heap.size w w' :=
  cursorsNone_any c.1 c.2 w h0
end Go.Proofs.Ytenbgfejonokdaa

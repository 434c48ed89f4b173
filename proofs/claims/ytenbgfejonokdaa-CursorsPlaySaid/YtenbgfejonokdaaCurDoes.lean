/- The chapter's examples of cursors. -/
import Derived.Test.YtenbgfejonokdaaSave
namespace Go.Proofs.Ytenbgfejonokdaa
set_option maxRecDepth 100000
open Go.RowKit Go.Maps
open Dsk

theorem put300 : Var.put 300 = [130, 44] := by
  unfold Var.put
  rw [if_neg (by decide), Var.hi_small (by decide)]
  decide
theorem put2 : Var.put 2 = [2] := by decide
theorem put3 : Var.put 3 = [3] := by decide
theorem put0 : Var.put 0 = [0] := by decide
theorem enc300 : Cur.enc 300 2 = ([67, 130, 44, 2], 0) := by
  rw [Cur.enc_some (by decide), show (300 : Int).toNat = 300 from rfl, show (2 : Int).toNat = 2 from rfl, put300, put2]; rfl
theorem enc3 : Cur.enc 3 0 = ([67, 3, 0], 0) := by decide
theorem dec300 : Cur.decR [67, 130, 44, 2] = ((300, 2), 0) := by
  have h := Cur.dec_enc (a := 300) (b := 2) (by decide)
  rw [enc300] at h
  unfold Cur.decR
  simp only at h
  rw [h]
def cd1 : Dk := (saveD (Dk.new 100) 3 0).2
theorem cs1 : (saveD (Dk.new 100) 3 0).1 = 0 := by decide +kernel
theorem cl0 : loadD (Dk.new 100) = ((0, 0), 0) := by decide +kernel
theorem cl1 : loadD cd1 = ((3, 0), 0) := by decide +kernel
theorem cn1 : names cd1.files = [curN] := by decide +kernel
theorem coff1 : cd1.off = false := by decide +kernel
theorem cs2 : saveD cd1 (-1) 0 = (2, cd1) := by unfold saveD; rw [if_neg (by rw [coff1]; decide), if_pos (by decide)]
set_option maxHeartbeats 4000000 in
theorem curDoes_any (w : World) : Calls Try.prog 19 #[] w fun e w' => e = .returned (.bool true) ∧ Below w.heap.size w w' := by
  have hen := fun W : World => encode_any 300 2 W (by omega) (by omega)
  rw [enc300] at hen
  have hde := fun W : World => decode_any ⟨#[67, 130, 44, 2]⟩ W (lit_le (by decide))
  rw [show (⟨#[67, 130, 44, 2]⟩ : ByteArray).data.toList = [67, 130, 44, 2] from rfl, dec300] at hde
  unfold curV at hen hde
  have Hen := Lib.hid hen
  have Hde := Lib.hid hde
  clear hen hde
  go_enter Try.func19, Try.ntmps19
  go_wp2_with fail
  refine (live_new 100 w (by omega) (by omega)).mono ?_
  rintro e w1 ⟨v, rfl, h1⟩
  obtain ⟨bd, rfl⟩ := h1.ptr
  have H1 := Lib.hid h1
  clear h1
  go_wp2_with fail
  refine (Hen.out _).mono ?_
  rintro e w2 ⟨rfl, hb⟩
  have H2 := Lib.hid (H1.out.keep hb)
  clear hb H1
  go_wp2_with fail
  refine (Hde.out _).mono ?_
  rintro e w3 ⟨rfl, hb⟩
  have H3 := Lib.hid (H2.out.keep hb)
  clear hb H2
  obtain ⟨w4, hw4⟩ : ∃ w4, w4 = w3.alloc (.cells #[.int .i64 300, .int .i64 2] 23 (0, 0)) := ⟨_, rfl⟩
  have B5 := Lib.hid (show Blk w4 w3.heap.size 23 #[.int .i64 300, .int .i64 2] by rw [hw4]; exact Blk.alloc_new _ _ _)
  have Hb34 := Lib.hid (show Below w3.heap.size w3 w4 by rw [hw4]; exact (Below.refl _ _).alloc (Nat.le_refl _) _)
  have H4 := Lib.hid (H3.out.keep Hb34.out)
  have HW4 := Lib.hid hw4
  clear hw4
  go_wp2_with fail
  rw [← HW4.out]
  have hl := H4.out.load
  rw [cl0] at hl
  unfold curV at hl
  refine hl.mono ?_
  rintro e w5 ⟨rfl, hb⟩
  have H5 := Lib.hid (H4.out.keep hb)
  have Hb35 := Lib.hid (Hb34.out.trans (hb.mono Hb34.out.size))
  have B5' := Lib.hid (B5.out.below hb)
  clear hb hl
  obtain ⟨w6, hw6⟩ : ∃ w6, w6 = w5.alloc (.cells #[.int .i64 0, .int .i64 0] 23 (0, 0)) := ⟨_, rfl⟩
  have hb56 : Below w5.heap.size w5 w6 := by rw [hw6]; exact (Below.refl _ _).alloc (Nat.le_refl _) _
  have B7 := Lib.hid (show Blk w6 w5.heap.size 23 #[.int .i64 0, .int .i64 0] by rw [hw6]; exact Blk.alloc_new _ _ _)
  have B5'' := Lib.hid (B5'.out.below hb56)
  have Hb36 := Lib.hid (Hb35.out.trans (hb56.mono Hb35.out.size))
  have H6 := Lib.hid (H3.out.add Hb36.out)
  have hx5 : Also (fun _ => False) w3 w6 w3.heap.size := .inr ⟨Nat.le_refl _, B5''.out.lt⟩
  have hx7 : Also (fun _ => False) w3 w6 w5.heap.size := .inr ⟨Hb35.out.size, B7.out.lt⟩
  have Hx5 := Lib.hid hx5
  have Hx7 := Lib.hid hx7
  clear hx5 hx7 hb56
  have HW6 := Lib.hid hw6
  clear hw6
  go_wp2_with fail
  rw [← HW6.out]
  have hsv := H6.out.save 3 0 (by omega) (by omega)
  rw [cs1] at hsv
  unfold curV at hsv
  refine hsv.mono ?_
  rintro e w7 ⟨rfl, hl, hk⟩
  have H7 := Lib.hid (show Live _ _ _ _ cd1 from hl)
  have C5 := Lib.hid (B5''.out.chg hk (fun e => e Hx5.out))
  have C7 := Lib.hid (B7.out.chg hk (fun e => e Hx7.out))
  clear hl hk hsv
  go_wp2_with fail
  have hl := H7.out.load
  rw [cl1] at hl
  unfold curV at hl
  refine hl.mono ?_
  rintro e w8 ⟨rfl, hb⟩
  have H8 := Lib.hid (H7.out.keep hb)
  have D5 := Lib.hid (C5.out.below hb)
  have D7 := Lib.hid (C7.out.below hb)
  clear hb hl
  obtain ⟨w9, hw9⟩ : ∃ w9, w9 = w8.alloc (.cells #[.int .i64 3, .int .i64 0] 23 (0, 0)) := ⟨_, rfl⟩
  have hb89 : Below w8.heap.size w8 w9 := by rw [hw9]; exact (Below.refl _ _).alloc (Nat.le_refl _) _
  have k0 := (D5.out.below hb89).cell 0
  have k1 := (D5.out.below hb89).cell 1
  have k2 := (D7.out.below hb89).cell 0
  have k3 := (D7.out.below hb89).cell 1
  have hB : Blk w9 w8.heap.size 23 #[.int .i64 3, .int .i64 0] := by rw [hw9]; exact Blk.alloc_new _ _ _
  have k4 := hB.cell 0
  have k5 := hB.cell 1
  simp at k0 k1 k2 k3 k4 k5
  have H9 := Lib.hid (H8.out.keep hb89)
  rw [hw9] at k0 k1 k2 k3 k4 k5
  have HW9 := Lib.hid hw9
  clear hw9 hb89 hB
  go_wp2_with fail
  rw [← HW9.out]
  refine (H9.out.names).mono ?_
  rintro e w10 ⟨u2, rfl, hu, hb⟩
  rw [cn1] at hu
  obtain ⟨ux2, uc2, hux, _⟩ := hu.each
  subst hux
  have Hu := Lib.hid (show RdS w10 (.slice ux2 1 uc2) [⟨#[99, 117, 114, 115, 111, 114]⟩] from hu.rd)
  have H10 := Lib.hid (H9.out.keep hb)
  clear hu hb
  have hlen : (strs [curN]).length = 1 := rfl
  rw [hlen]
  clear hlen
  go_wp2_with fail
  refine (sameTexts_lit [⟨#[99, 117, 114, 115, 111, 114]⟩] rfl (by decide) Hu.out).mono ?_
  rintro e w11 ⟨rfl, hb⟩
  have H11 := Lib.hid (H10.out.keep hb)
  clear hb
  go_wp2_with fail
  have hsv := H11.out.save (-1) 0 (by omega) (by omega)
  rw [cs2] at hsv
  unfold curV at hsv
  refine hsv.mono ?_
  rintro e w12 ⟨rfl, hl, hk⟩
  have HB := Lib.hid hl.below
  clear hl hk hsv
  go_wp2_with fail
  go_ret
  exact ⟨rfl, HB.out⟩
end Go.Proofs.Ytenbgfejonokdaa

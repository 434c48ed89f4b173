/- 'DiskMany', walked. -/
import Derived.Test.YtnngdflamkdgaaaLiveP
import Derived.Test.YtnngdflamkdgaaaDiskMany
namespace Go.Proofs.Ytnngdflamkdgaaa
open Go.RowKit Go.Maps
open Dsk

theorem brow_two (w : World) (t : TypeId) (a b : Int) (c d : UInt8) (ha : (c.toNat : Int) = a) (hb : (d.toNat : Int) = b) : BRow (w.alloc (.cells #[.int .u8 a, .int .u8 b] t (0, 0))) w.heap.size [c, d] := by
  refine ⟨#[.int .u8 a, .int .u8 b], t, 0, 0, Blk.alloc_new w t _, .inr rfl, fun j hj => ?_⟩
  match j, hj with
  | 0, _ => simp [ha]
  | 1, _ => simp [hb]
  | (n + 2), hj => exact absurd hj (by simp)
theorem u8_byte (n : Nat) (h : n < 256) : ((UInt8.ofNat n).toNat : Int) = (n : Int) := by rw [UInt8.toNat_ofNat_of_lt' h]
theorem keyM_bytes (i : Nat) : (ByteArray.mk [UInt8.ofNat (i / 256), UInt8.ofNat (i % 256)].toArray).data.toList = keyM i := rfl
set_option maxRecDepth 100000 in
set_option maxHeartbeats 4000000 in
theorem walkDiskMany (over which : Int) (w : World) (h0 : 0 ≤ over ∧ over ≤ 255) (h1 : 0 ≤ which ∧ which ≤ 65535) :
    Calls Try.prog 5 #[.int .u8 over, .int .u16 which] w fun e w' => e = .returned (.bool true) ∧ Below w.heap.size w w' := by
  obtain ⟨N, hN⟩ : ∃ N : Nat, 1021 + over % 6 = (N : Int) := ⟨(1021 + over % 6).toNat, by omega⟩
  have hNb : 1021 ≤ N ∧ N ≤ 1026 := by omega
  obtain ⟨M, hM⟩ : ∃ M : Nat, M = min N 1024 := ⟨_, rfl⟩
  have hMi : min (N : Int) 1024 = (M : Int) := by omega
  obtain ⟨K, hK⟩ : ∃ K : Nat, which % (M : Int) = (K : Int) ∧ K < M := by
    have a1 := Int.emod_nonneg which (show (M : Int) ≠ 0 by omega)
    have a2 := Int.emod_lt_of_pos which (show 0 < (M : Int) by omega)
    exact ⟨(which % (M : Int)).toNat, by omega, by omega⟩
  obtain ⟨hK1, hK2⟩ := hK
  have hwo : IntKind.i64.wrap (over % 6) = over % 6 := IntWalk.i64_in _ ⟨by omega, by omega⟩
  have hww : IntKind.i64.wrap which = which := IntWalk.i64_in _ ⟨by omega, by omega⟩
  obtain ⟨fa, fb, fc, T1, T2, T3, T4, T5⟩ := many_turn (m := M) (k := K) (by omega) hK2
  have HT1 := Lib.hid T1
  have HT2 := Lib.hid T2
  have HT3 := Lib.hid T3
  have HT4 := Lib.hid T4
  have HT5 := Lib.hid T5
  have HM := Lib.hid hM
  have HN := Lib.hid hNb
  obtain ⟨o1, o2⟩ := h0
  obtain ⟨p1, p2⟩ := h1
  have hN1 : 1021 ≤ N := hNb.1
  have hN2 : N ≤ 1026 := hNb.2
  have hM1 : 1021 ≤ M := by omega
  have hM2 : M ≤ 1024 := by omega
  clear hM T1 T2 T3 T4 T5 hNb
  go_enter Try.func5, Try.ntmps5
  go_wp2_with fail
  refine (live_new 100 w (by omega) (by omega)).mono ?_
  rintro e w1 ⟨u, rfl, hl⟩
  obtain ⟨bd, rfl⟩ := hl.ptr
  have HL := Lib.hid hl
  clear hl
  go_wp2_with fail
  go_loopw [8, 9] (fun v8 _ wr => ∃ i : Nat, v8 = .int .i64 i ∧ i ≤ N ∧ Live w (fun _ => False) wr (.pointer (some ⟨bd, 0, none⟩)) (mst (many (min i 1024)))) (fun v8 _ _ => N - (intOf v8).toNat)
  case atStart => exact ⟨0, rfl, Nat.zero_le _, HL.out⟩
  case round =>
    obtain ⟨i, rfl, hi, hl⟩ := hrel
    have HL2 := Lib.hid hl
    clear hl
    by_cases hlt : i < N
    · have b1 := u8_byte (i / 256) (by omega)
      have b2 := u8_byte (i % 256) (by omega)
      have e1 : IntKind.u8.wrap ((i : Int) / 256) = (i : Int) / 256 := by rw [IntKind.wrap_u8]; omega
      have e2 : IntKind.u8.wrap ((i : Int) % 256) = (i : Int) % 256 := by rw [IntKind.wrap_u8]; omega
      have HR := Lib.hid (brow_two wr 5 ((i : Int) / 256) ((i : Int) % 256) (UInt8.ofNat (i / 256)) (UInt8.ofNat (i % 256)) (by omega) (by omega))
      have hba : Below wr.heap.size wr (wr.alloc (.cells #[.int .u8 ((i : Int) / 256), .int .u8 ((i : Int) % 256)] 5 (0, 0))) := (Below.refl _ _).alloc (Nat.le_refl _) _
      have HL3 := Lib.hid (HL2.out.keep hba)
      clear b1 b2 hba
      by_cases h24 : i < 1024
      · have d1 : decide ((i : Int) < 1024) = true := decide_eq_true (by omega)
        have d2 : decide (i < 1024) = true := decide_eq_true (by omega)
        have HA := Lib.hid (many_append h24)
        have hm : min i 1024 = i := by omega
        rw [hm] at HL3
        have Hm := Lib.hid (show min (i + 1) 1024 = i + 1 by omega)
        clear hm
        go_wp2_with (refine wpList_text_of rfl (.tmp 34) rfl wr.heap.size 2 2 rfl [UInt8.ofNat (i / 256), UInt8.ofNat (i % 256)] rfl HR.out ?_)
        refine (HL3.out.appendP ⟨[UInt8.ofNat (i / 256), UInt8.ofNat (i % 256)].toArray⟩ ⟨#[]⟩ rfl HA.out (by show 2 ≤ 1000; omega) (by decide)).mono ?_
        rintro e w2 ⟨rfl, hl⟩
        have HL4 := Lib.hid hl
        clear hl
        go_wp2_with fail
        go_roundw
        case rel => exact ⟨i + 1, by go_num, by omega, by rw [Hm.out]; exact HL4.out⟩
        case measure => simp [intOf]; omega
      · have d1 : decide ((i : Int) < 1024) = false := decide_eq_false (by omega)
        have d2 : decide (i < 1024) = false := decide_eq_false (by omega)
        have HA := Lib.hid (many_full (m := min i 1024) (k := i) (by omega) (by omega) (by omega))
        have Hm := Lib.hid (show min (i + 1) 1024 = min i 1024 by omega)
        go_wp2_with (refine wpList_text_of rfl (.tmp 34) rfl wr.heap.size 2 2 rfl [UInt8.ofNat (i / 256), UInt8.ofNat (i % 256)] rfl HR.out ?_)
        refine (HL3.out.appendP ⟨[UInt8.ofNat (i / 256), UInt8.ofNat (i % 256)].toArray⟩ ⟨#[]⟩ rfl HA.out (by show 2 ≤ 1000; omega) (by decide)).mono ?_
        rintro e w2 ⟨rfl, hl⟩
        have HL4 := Lib.hid hl
        clear hl
        go_wp2_with fail
        go_roundw
        case rel => exact ⟨i + 1, by go_num, by omega, by rw [Hm.out]; exact HL4.out⟩
        case measure => simp [intOf]; omega
    · obtain rfl : i = N := by omega
      rw [← HM.out] at HL2
      have b1 := u8_byte (K / 256) (by omega)
      have b2 := u8_byte (K % 256) (by omega)
      have e1 : IntKind.u8.wrap ((K : Int) / 256) = (K : Int) / 256 := by rw [IntKind.wrap_u8]; omega
      have e2 : IntKind.u8.wrap ((K : Int) % 256) = (K : Int) % 256 := by rw [IntKind.wrap_u8]; omega
      have HR := Lib.hid (brow_two wr 5 ((K : Int) / 256) ((K : Int) % 256) (UInt8.ofNat (K / 256)) (UInt8.ofNat (K % 256)) (by omega) (by omega))
      have hba : Below wr.heap.size wr (wr.alloc (.cells #[.int .u8 ((K : Int) / 256), .int .u8 ((K : Int) % 256)] 5 (0, 0))) := (Below.refl _ _).alloc (Nat.le_refl _) _
      have HL3 := Lib.hid (HL2.out.keep hba)
      clear b1 b2 hba
      have q1 : ((M : Int) != M) = false := by simp
      have q2 : ((M : Int) == M) = true := by simp
      go_wp2_with (refine wpList_text_of rfl (.tmp 61) rfl wr.heap.size 2 2 rfl [UInt8.ofNat (K / 256), UInt8.ofNat (K % 256)] rfl HR.out ?_)
      refine HL3.out.names.mono ?_
      rintro e w2 ⟨un, rfl, hun, hb2⟩
      obtain ⟨nx, nc, hnx, hj1⟩ := hun.each
      subst hnx
      clear hj1
      have hl1 : (strs (names (mst (many M)).files)).length = M := by rw [names_len]; exact many_length M
      rw [hl1]
      have HL4 := Lib.hid (HL3.out.keep hb2)
      clear hun hb2 hl1
      go_wp2_with fail
      refine (HL4.out.appendP ⟨[UInt8.ofNat (K / 256), UInt8.ofNat (K % 256)].toArray⟩ ⟨#[120]⟩ rfl HT1.out (by show 2 ≤ 1000; omega) (by decide)).mono ?_
      rintro e w3 ⟨rfl, hl⟩
      have HL5 := Lib.hid hl
      clear hl
      go_wp2_with fail
      refine (HL5.out.removeP ⟨[UInt8.ofNat (K / 256), UInt8.ofNat (K % 256)].toArray⟩ rfl HT2.out (by show 2 ≤ 1000; omega)).mono ?_
      rintro e w4 ⟨rfl, hl⟩
      have HL6 := Lib.hid hl
      clear hl
      go_wp2_with fail
      refine (HL6.out.appendP ⟨#[110, 101, 119]⟩ ⟨#[]⟩ rfl HT3.out (by decide) (by decide)).mono ?_
      rintro e w5 ⟨rfl, hl⟩
      have HL7 := Lib.hid hl
      clear hl
      go_wp2_with fail
      refine HL7.out.names.mono ?_
      rintro e w6 ⟨un, rfl, hun, hb2⟩
      obtain ⟨nx2, nc2, hnx, hj1⟩ := hun.each
      subst hnx
      clear hj1
      have hl1 : (strs (names (mst fc).files)).length = M := by rw [names_len]; exact HT4.out
      rw [hl1]
      have HL8 := Lib.hid (HL7.out.keep hb2)
      clear hun hb2 hl1
      go_wp2_with fail
      refine HL8.out.sizes.mono ?_
      rintro e w7 ⟨rfl, hb7⟩
      have ht : total (mst fc).files = 0 := HT5.out
      rw [ht]
      have HL9 := Lib.hid (HL8.out.keep hb7)
      clear hb7 ht
      go_wp2_with fail
      refine (does_any _).mono ?_
      rintro e w9 ⟨rfl, hb9⟩
      have HB := Lib.hid (HL9.out.below.trans (hb9.mono HL9.out.size))
      clear hb9
      go_wp2_with fail
      go_ret
      exact ⟨rfl, HB.out⟩
end Go.Proofs.Ytnngdflamkdgaaa

/- A host's log: whether a file is a segment, walked. -/
import Derived.Test.YtiepipcankhdnaaGreatDoorHlE
namespace Go.Proofs.YtiepipcankhdnaaGreatDoor
set_option linter.unusedSimpArgs false
set_option linter.unusedVariables false
set_option maxRecDepth 100000
open Go.RowKit Go.Maps
open Dsk

section
variable {w0 w w' : World} {X H S : Nat → Prop} {v : Value} {d d' : Dk} {j : Nat} {h : Hl}
theorem first_ext (s : ByteArray) : (s.extract 0 1).toList = s.data.toList.take 1 := by rw [ByteArray.toList_eq, extract_list]; simp
theorem lnB_two {n : Nat} : 2 ≤ (lnB n).size := by
  have h1 : (lnB n).size = (ln n).length := List.size_toArray
  obtain ⟨_, b, r, h2, _⟩ := digits_from n n (Nat.le_refl _)
  rw [h1]
  unfold ln
  rw [h2]
  simp
set_option maxHeartbeats 1000000 in
theorem hnum_log (he : LEnv w) {n : Nat} (hn : n ≤ 999999999) : Calls Tryz.prog 58 #[.string (lnB n)] w fun e w' => e = .returned (.tuple #[.int .i64 n, .bool true]) ∧ Below w.heap.size w w' := by
  have hz := decB_nine hn
  have HAT := Lib.hid (fun W => Tryz.strconv_Atoi (decB n) n (by omega) (by rw [decB_data]; exact atoi_digits n) W)
  have HIT := Lib.hid (fun W (hW : Below w.heap.size w W) => itoa_any (he.below hW) (n := n) (by omega))
  have h2 := lnB_two (n := n)
  have h10 := lnB_size hn
  have hx1 : ((lnB n).extract 0 1).toList = [108] := by rw [first_ext, lnB_data]; rfl
  have hx2 : (lnB n).extract 1 (lnB n).size = decB n := by
    apply bytes_ext
    rw [tail_list, lnB_data, decB_data]
    rfl
  have hcat := ln_cat n
  obtain ⟨J, hJ⟩ : ∃ J, J = lnB n := ⟨_, rfl⟩
  obtain ⟨D, hD⟩ : ∃ D, D = decB n := ⟨_, rfl⟩
  rw [← hJ] at h2 h10 hx1 hx2 hcat ⊢
  rw [← hD] at hz HAT HIT hx2 hcat
  have HCAT := Lib.hid hcat
  have q1 : decide ((J.size : Int) < 2) = false := decide_eq_false (by omega)
  have q2 : decide ((10 : Int) < J.size) = false := decide_eq_false (by omega)
  have q1' : decide (J.size < 2) = false := decide_eq_false (by omega)
  have q2' : decide (10 < J.size) = false := decide_eq_false (by omega)
  have q3 : (1 : Int) ≤ J.size := by omega
  have nz1 : ¬ 9223372036854775807 < (⟨#[108]⟩ : ByteArray).size + D.size := by
    have : (⟨#[108]⟩ : ByteArray).size = 1 := rfl
    omega
  have nz2 : ¬ 9223372036854775807 < 1 + D.size := by omega
  have q5 : (0 : Int) ≤ n := by omega
  clear hJ hD hn he hz
  go_enter Tryz.func58, Tryz.ntmps58
  go_wp2_with fail
  refine (HAT.out _).mono ?_
  rintro e w2 ⟨rfl, t, rfl⟩
  have hbw := Lib.bytesWorld_below w 5 t
  have HBW := Lib.hid hbw
  obtain ⟨w3, hw3⟩ : ∃ w3, w3 = Lib.bytesWorld w 5 t := ⟨_, rfl⟩
  rw [← hw3] at HBW ⊢
  clear hbw hw3
  go_wp2_with fail
  refine (HIT.out w3 HBW.out).mono ?_
  rintro e w4 ⟨rfl, hb4⟩
  have HB4 := Lib.hid (HBW.out.trans (hb4.mono HBW.out.size))
  clear hb4
  go_wp2_with fail
  go_ret2
  exact ⟨rfl, HB4.out⟩
set_option maxHeartbeats 1000000 in
theorem hnum_draft (he : LEnv w) : Calls Tryz.prog 58 #[.string ⟨#[108, 110, 101, 119]⟩] w fun e w' => e = .returned (.tuple #[.int .i64 0, .bool false]) ∧ Below w.heap.size w w' := by
  obtain ⟨tp, p, hv⟩ := he.err
  have HAT := Lib.hid (Tryz.strconv_Atoi_err_var (⟨#[110, 101, 119]⟩ : ByteArray) (by decide) (by decide) tp p w hv)
  obtain ⟨J, hJ⟩ : ∃ J : ByteArray, J = ⟨#[108, 110, 101, 119]⟩ := ⟨_, rfl⟩
  rw [← hJ]
  have hs : J.size = 4 := by rw [hJ]; rfl
  have hx1 : (J.extract 0 1).toList = [108] := by rw [hJ, first_ext]; rfl
  have hx2 : J.extract 1 J.size = ⟨#[110, 101, 119]⟩ := by
    apply bytes_ext
    rw [tail_list, hJ]
    rfl
  rw [hs] at hx2
  have q3 : (1 : Int) ≤ J.size := by omega
  clear hJ he hv
  go_enter Tryz.func58, Tryz.ntmps58
  go_wp2_with fail
  refine HAT.out.mono ?_
  rintro e w2 ⟨N, rfl, _, _, hb⟩
  have HB := Lib.hid hb
  clear hb
  go_wp2_with fail
  go_ret2
  exact ⟨rfl, HB.out⟩
theorem hnum_other (s : ByteArray) (hs : s.size ≤ maxLen) (h : s.data.toList.head? ≠ some 108) : Calls Tryz.prog 58 #[.string s] w fun e w' => e = .returned (.tuple #[.int .i64 0, .bool false]) ∧ w = w' := by
  have hl : s.data.toList.length = s.size := by simp
  have hm : s.size ≤ 9223372036854775807 := by unfold maxLen at hs; omega
  by_cases h2 : s.size < 2
  · have q1 : (s.size : Int) < 2 := by omega
    clear h hl hs
    go_enter Tryz.func58, Tryz.ntmps58
    go_wp2_with fail
    go_ret2
    exact ⟨rfl, rfl⟩
  · by_cases h10 : 10 < s.size
    · have q1 : (10 : Int) < s.size := by omega
      have q2 : ¬ (s.size : Int) < 2 := by omega
      clear h hl hs
      go_enter Tryz.func58, Tryz.ntmps58
      go_wp2_with fail
      go_ret2
      exact ⟨rfl, rfl⟩
    · have q1 : ¬ (10 : Int) < s.size := by omega
      have q2 : ¬ (s.size : Int) < 2 := by omega
      have q3 : (1 : Int) ≤ s.size := by omega
      have hx1 : ((s.extract 0 1).toList == [108]) = false := by
        rw [first_ext]
        cases hc : s.data.toList with
        | nil => rw [hc] at hl; simp at hl; omega
        | cons c r =>
          rw [hc] at h
          simp at h ⊢
          exact h
      clear h hl hs
      go_enter Tryz.func58, Tryz.ntmps58
      go_wp2_with fail
      go_ret2
      exact ⟨rfl, rfl⟩
end
end Go.Proofs.YtiepipcankhdnaaGreatDoor

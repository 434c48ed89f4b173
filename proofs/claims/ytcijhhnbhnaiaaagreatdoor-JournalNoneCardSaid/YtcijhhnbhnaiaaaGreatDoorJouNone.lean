/- 'JournalNone', walked. -/
import Derived.Test.YtcijhhnbhnaiaaaGreatDoorJouL
import Derived.Test.YtcijhhnbhnaiaaaGreatDoorJouOpen
namespace Go.Proofs.YtcijhhnbhnaiaaaGreatDoor
set_option linter.unusedSimpArgs false
set_option linter.unusedVariables false
set_option maxRecDepth 100000
open Go.RowKit Go.Maps
open Dsk

def jnd1 : Dk := ((Dk.new 100).crash []).2
theorem jn1_eq : (Dk.new 100).crash [] = (0, jnd1) := dpair_of (by decide +kernel) rfl
theorem jn1_read : jnd1.read [106] = ([], 51) := by decide +kernel
set_option maxHeartbeats 2000000 in
theorem jopen_down {w : World} {v : Value} (n : Int) {e0 : Int} (hptr : ∃ a, v = .pointer a) (hst : ∀ W : World, Below w.heap.size w W → Calls Tryz.prog 33 #[v] W fun e w' => ∃ n : Int, e = .returned (.int .i64 n) ∧ W = w')
    (hup : ∀ W : World, Below w.heap.size w W → Calls Tryz.prog 32 #[v] W fun e w' => e = .returned (.bool false) ∧ W = w')
    (hrd : ∀ W : World, Below w.heap.size w W → Calls Tryz.prog 28 #[v, .string ⟨#[106]⟩] W fun e w' => e = .returned (.tuple #[.string ⟨#[]⟩, .int .i64 e0]) ∧ Below W.heap.size W w') :
    Calls Tryz.prog 12 #[v, .int .i64 n] w fun e w' => e = .returned (.tuple #[.pointer none, .slice none 0 0, .int .i64 e0]) ∧ Below w.heap.size w w' := by
  have HST := Lib.hid hst
  have HUP := Lib.hid hup
  have HRD := Lib.hid hrd
  obtain ⟨a, rfl⟩ := hptr
  clear hst hup hrd
  go_enter Tryz.func12, Tryz.ntmps12
  go_wp2_with fail
  refine (HST.out w (Below.refl _ _)).mono ?_
  rintro e w' ⟨s, rfl, rfl⟩
  obtain ⟨w1, hw1⟩ : ∃ w1, w1 = w.alloc (.cells #[.pointer a, .int .i64 s, .bool false, .int .i64 n] 56 (0, 0)) := ⟨_, rfl⟩
  have HB := Lib.hid (show Below w.heap.size w w1 by rw [hw1]; exact (Below.refl _ _).alloc (Nat.le_refl _) _)
  have HW := Lib.hid hw1
  clear hw1
  go_wp2_with fail
  rw [← HW.out]
  refine (HUP.out w1 HB.out).mono ?_
  rintro e w' ⟨rfl, rfl⟩
  go_wp2_with fail
  refine (HUP.out w1 HB.out).mono ?_
  rintro e w' ⟨rfl, rfl⟩
  go_wp2_with fail
  refine (HRD.out w1 HB.out).mono ?_
  rintro e w2 ⟨rfl, hb2⟩
  have HB2 := Lib.hid (HB.out.trans (hb2.mono HB.out.size))
  clear hb2
  go_wp2_with fail
  refine bodyPost_ret (v := .tuple #[.pointer none, .slice none 0 0, .int .i64 e0]) (by simp [results, Tryz.results12, go_sem]) rfl ⟨rfl, HB2.out⟩
set_option maxHeartbeats 2000000 in
theorem jopen_arg {w0 w : World} {X : Nat → Prop} {v : Value} {d : Dk} (h : Live w0 X w v d) (hup : d.off = false) (n : Int) (hn : n < 1) :
    Calls Tryz.prog 12 #[v, .int .i64 n] w fun e w' => e = .returned (.tuple #[.pointer none, .slice none 0 0, .int .i64 2]) ∧ Below w.heap.size w w' := by
  have HST := Lib.hid h.starts
  obtain ⟨bd, rfl⟩ := h.ptr
  obtain ⟨w1, hw1⟩ : ∃ w1, w1 = w.alloc (.cells #[.pointer (some ⟨bd, 0, none⟩), .int .i64 d.starts, .bool false, .int .i64 n] 56 (0, 0)) := ⟨_, rfl⟩
  have HB := Lib.hid (show Below w.heap.size w w1 by rw [hw1]; exact (Below.refl _ _).alloc (Nat.le_refl _) _)
  have HUP := Lib.hid (show Calls Tryz.prog 32 #[.pointer (some ⟨bd, 0, none⟩)] w1 fun e w' => e = .returned (.bool true) ∧ w1 = w' by have := (h.keep HB.out).up; rw [hup] at this; exact this)
  have HW := Lib.hid hw1
  clear hw1 h hup
  go_enter Tryz.func12, Tryz.ntmps12
  go_wp2_with fail
  refine HST.out.mono ?_
  rintro e w' ⟨rfl, rfl⟩
  go_wp2_with fail
  rw [← HW.out]
  refine HUP.out.mono ?_
  rintro e w' ⟨rfl, rfl⟩
  go_wp2_with fail
  refine bodyPost_ret (v := .tuple #[.pointer none, .slice none 0 0, .int .i64 2]) (by simp [results, Tryz.results12, go_sem]) rfl ⟨rfl, HB.out⟩
set_option maxHeartbeats 4000000 in
theorem walkJournalNone (x : Value × List Jou.Cell) (n : Int) (w : World) (h1 : CelsIn w x) (hn : -9223372036854775808 ≤ n ∧ n ≤ 9223372036854775807) :
    Calls Tryz.prog 5 #[x.1, .int .i64 n] w fun e w' => e = .returned (.bool true) ∧ Below w.heap.size w w' := by
  obtain ⟨lv, l⟩ := x
  obtain ⟨hl, hlm, hbd⟩ := h1
  simp only at hl hlm hbd ⊢
  obtain ⟨lx, lc, rfl, _⟩ := id hl
  have HBY := Lib.hid (beyondC_any _ l 20 w hl hlm hbd)
  obtain ⟨m, hm⟩ : ∃ m, m = l.length := ⟨_, rfl⟩
  rw [← hm] at HBY ⊢
  clear hl hbd hm hlm
  go_enter Tryz.func5, Tryz.ntmps5
  go_wp2_with fail
  refine HBY.out.mono ?_
  rintro e w0 ⟨⟨b, rfl, hsm⟩, rfl⟩
  clear hsm HBY
  by_cases hb1 : b = 1
  · subst hb1
    go_wp2_with fail
    refine (jlives_any w).mono ?_
    rintro e w1 ⟨rfl, hb⟩
    go_wp2_with fail
    go_ret
    exact ⟨rfl, hb⟩
  have hbf : (b == 1) = false := beq_eq_false_iff_ne.2 hb1
  rw [hbf]
  clear hb1 hbf
  go_wp2_with fail
  go_loopw [5, 6] (fun v5 v6 wr => ∃ k : Nat, v6 = .int .i64 k ∧ k ≤ 2 ∧ Below w.heap.size w wr ∧ NilJ wr v5) (fun _ v6 _ => 2 - (intOf v6).toNat)
  case atStart => exact ⟨0, rfl, by omega, Below.refl _ _, .inl rfl⟩
  case round =>
    obtain ⟨k, rfl, hk, hb, hnil⟩ := hrel
    have HB := Lib.hid hb
    have HN := Lib.hid hnil
    clear hb hnil
    by_cases hlt : k < 2
    · have hlt2 : (k : Int) < 2 := by omega
      go_wp2_with fail
      refine (japp_nil HN.out lx m lc).mono ?_
      rintro e w' ⟨rfl, rfl⟩
      go_wp2_with fail
      refine (jbegin_nil HN.out n).mono ?_
      rintro e w' ⟨rfl, rfl⟩
      go_wp2_with fail
      refine (jnumber_nil HN.out).mono ?_
      rintro e w' ⟨rfl, rfl⟩
      go_wp2_with fail
      refine (jsize_nil HN.out).mono ?_
      rintro e w' ⟨rfl, rfl⟩
      obtain ⟨w4, hw4⟩ : ∃ w4, w4 = wr.alloc (.cells #[.pointer none, .int .i64 0, .bool false, .int .i64 0] 56 (0, 0)) := ⟨_, rfl⟩
      have hz1 := HB.out.size
      have HB4 := Lib.hid (show Below w.heap.size w w4 by rw [hw4]; exact HB.out.alloc hz1 _)
      have k4 : Blk w4 wr.heap.size 56 #[.pointer none, .int .i64 0, .bool false, .int .i64 0] := by rw [hw4]; exact Blk.alloc_new _ _ _
      have HN4 := Lib.hid (show NilJ w4 (.pointer (some ⟨wr.heap.size, 0, none⟩)) from .inr ⟨_, rfl, k4.lt, k4.cell 0⟩)
      have HW4 := Lib.hid hw4
      clear hw4 k4
      go_wp2_with fail
      rw [← HW4.out]
      go_roundw
      case rel => exact ⟨k + 1, by go_num, by omega, HB4.out, HN4.out⟩
      case measure => simp [intOf]; omega
    · have hge : ¬ (k : Int) < 2 := by omega
      clear HN
      go_wp2_with fail
      refine (jopen_down n (e0 := 1) (v := .pointer none) ⟨_, rfl⟩ (fun W _ => (starts_nil (.inl rfl)).mono (fun e w' h => ⟨0, h⟩)) (fun W _ => up_nil (.inl rfl)) (fun W _ => read_nil (.inl rfl) ⟨#[106]⟩)).mono ?_
      rintro e w1 ⟨rfl, hb1⟩
      have HB1 := Lib.hid (HB.out.trans (hb1.mono HB.out.size))
      clear hb1
      go_wp2_with fail
      refine (live_new 100 w1 (by omega) (by omega)).mono ?_
      rintro e w2 ⟨v, rfl, hlv⟩
      obtain ⟨bd, rfl⟩ := hlv.ptr
      have HL2 := Lib.hid hlv
      clear hlv
      by_cases hn1 : n < 1
      · go_wp2_with fail
        refine (jopen_arg HL2.out rfl n hn1).mono ?_
        rintro e w2' ⟨rfl, hb2⟩
        have HL2' := Lib.hid (HL2.out.keep hb2)
        clear hb2 HL2
        have HL2 := HL2'
        clear HL2'
        go_wp2_with fail
        refine (HL2.out.crashP (.slice none 0 0) [] (keepR_nil _ _) (by decide) jn1_eq).mono ?_
        rintro e w3 ⟨rfl, hlv, hkp⟩
        have HL3 := Lib.hid hlv
        clear hlv hkp
        go_wp2_with fail
        refine (jopen_down n (e0 := 51) ⟨_, rfl⟩ (fun W hW => ((HL3.out.keep hW).starts).mono (fun e w' h => ⟨_, h⟩)) (fun W hW => ((HL3.out.keep hW).up)) (fun W hW => (HL3.out.keep hW).readP ⟨#[106]⟩ ⟨#[]⟩ (n := [106]) rfl jn1_read (by decide))).mono ?_
        rintro e w4 ⟨rfl, hb4⟩
        have HB4 := Lib.hid (HB1.out.trans (((HL3.out.keep hb4).below).mono HB1.out.size))
        clear hb4
        go_wp2_with fail
        refine (jlives_any w4).mono ?_
        rintro e w5 ⟨rfl, hb5⟩
        have HB5 := Lib.hid (HB4.out.trans (hb5.mono HB4.out.size))
        clear hb5
        go_wp2_with fail
        go_ret
        exact ⟨rfl, HB5.out⟩
      · go_wp2_with fail
        refine (HL2.out.crashP (.slice none 0 0) [] (keepR_nil _ _) (by decide) jn1_eq).mono ?_
        rintro e w3 ⟨rfl, hlv, hkp⟩
        have HL3 := Lib.hid hlv
        clear hlv hkp
        go_wp2_with fail
        refine (jopen_down n (e0 := 51) ⟨_, rfl⟩ (fun W hW => ((HL3.out.keep hW).starts).mono (fun e w' h => ⟨_, h⟩)) (fun W hW => ((HL3.out.keep hW).up)) (fun W hW => (HL3.out.keep hW).readP ⟨#[106]⟩ ⟨#[]⟩ (n := [106]) rfl jn1_read (by decide))).mono ?_
        rintro e w4 ⟨rfl, hb4⟩
        have HB4 := Lib.hid (HB1.out.trans (((HL3.out.keep hb4).below).mono HB1.out.size))
        clear hb4
        go_wp2_with fail
        refine (jlives_any w4).mono ?_
        rintro e w5 ⟨rfl, hb5⟩
        have HB5 := Lib.hid (HB4.out.trans (hb5.mono HB4.out.size))
        clear hb5
        go_wp2_with fail
        go_ret
        exact ⟨rfl, HB5.out⟩
end Go.Proofs.YtcijhhnbhnaiaaaGreatDoor

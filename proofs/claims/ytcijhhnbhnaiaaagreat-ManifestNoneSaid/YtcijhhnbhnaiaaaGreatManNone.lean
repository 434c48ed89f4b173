/- 'ManifestNone', walked. -/
import Derived.Test.YtcijhhnbhnaiaaaGreatManLives
import Derived.Test.YtcijhhnbhnaiaaaGreatEdOpen
namespace Go.Proofs.YtcijhhnbhnaiaaaGreat
set_option linter.unusedSimpArgs false
set_option linter.unusedVariables false
set_option maxRecDepth 100000
open Go.RowKit Go.Maps
open Dsk

def mn1 : Dk := ((Dk.new 100).crash []).2
theorem mn1_eq : (Dk.new 100).crash [] = (0, mn1) := pair_of (by decide +kernel) rfl
theorem mn1_read : mn1.read manN = ([], 51) := by decide +kernel
set_option maxHeartbeats 4000000 in
theorem walkManifestNone (x : Value × List Ed.Edit) (w : World) (h1 : EdsIn w x) :
    Calls Tryz.prog 3 #[x.1] w fun e w' => e = .returned (.bool true) ∧ Below w.heap.size w w' := by
  obtain ⟨lv, l⟩ := x
  obtain ⟨hl, hlm, hbd⟩ := h1
  simp only at hl hlm hbd ⊢
  obtain ⟨lx, lc, rfl, _⟩ := id hl
  have HBY := Lib.hid (beyond_any _ l 10 w hl hlm (fun j hj => ⟨(hbd j hj).files, (hbd j hj).key⟩))
  obtain ⟨n, hn⟩ : ∃ n, n = l.length := ⟨_, rfl⟩
  rw [← hn] at HBY ⊢
  clear hl hbd hn hlm
  go_enter Tryz.func3, Tryz.ntmps3
  go_wp2_with fail
  refine HBY.out.mono ?_
  rintro e w0 ⟨⟨b, rfl, hsm⟩, rfl⟩
  clear hsm HBY
  by_cases hb1 : b = 1
  · subst hb1
    go_wp2_with fail
    refine (mlives_any w).mono ?_
    rintro e w1 ⟨rfl, hb⟩
    go_wp2_with fail
    go_ret
    exact ⟨rfl, hb⟩
  have hbf : (b == 1) = false := beq_eq_false_iff_ne.2 hb1
  rw [hbf]
  clear hb1 hbf
  go_wp2_with fail
  go_loopw [3, 4] (fun v3 v4 wr => ∃ k : Nat, v4 = .int .i64 k ∧ k ≤ 2 ∧ Below w.heap.size w wr ∧ NilM wr v3) (fun _ v4 _ => 2 - (intOf v4).toNat)
  case atStart => exact ⟨0, rfl, by omega, Below.refl _ _, .inl rfl⟩
  case round =>
    obtain ⟨k, rfl, hk, hb, hnil⟩ := hrel
    have HB := Lib.hid hb
    have HN := Lib.hid hnil
    clear hb hnil
    by_cases hlt : k < 2
    · have hlt2 : (k : Int) < 2 := by omega
      have hfd : ∀ W : World, (Instr.field 28 (.agg #[.slice none 0 0, .int .i64 0, .int .i64 0]) 0).run Tryz.prog W = .ok (.slice none 0 0) W := fun _ => by kernel_rfl
      go_wp2_with fail
      refine (mstate_nil HN.out).mono ?_
      rintro e w1 ⟨rfl, hb1⟩
      have HB1 := Lib.hid (HB.out.trans (hb1.mono HB.out.size))
      have HN1 := Lib.hid (HN.out.below hb1)
      clear hb1
      go_wp2_with fail
      refine (mdo_nil HN1.out lx n lc).mono ?_
      rintro e w2 ⟨rfl, rfl⟩
      go_wp2_with fail
      refine (manew_nil HN1.out).mono ?_
      rintro e w3 ⟨rfl, rfl⟩
      obtain ⟨w4, hw4⟩ : ∃ w4, w4 = w1.alloc (.cells #[.pointer none, .int .i64 0, .bool false, .slice none 0 0, .int .i64 0, .int .i64 0, .int .i64 0] 35 (0, 0)) := ⟨_, rfl⟩
      have hz1 := HB1.out.size
      have HB4 := Lib.hid (show Below w.heap.size w w4 by rw [hw4]; exact HB1.out.alloc hz1 _)
      have k4 : Blk w4 w1.heap.size 35 #[.pointer none, .int .i64 0, .bool false, .slice none 0 0, .int .i64 0, .int .i64 0, .int .i64 0] := by rw [hw4]; exact Blk.alloc_new _ _ _
      have HN4 := Lib.hid (show NilM w4 (.pointer (some ⟨w1.heap.size, 0, none⟩)) from .inr ⟨_, rfl, k4.lt, k4.cell 0⟩)
      have HW4 := Lib.hid hw4
      clear hw4 k4
      go_wp2_with fail
      rw [← HW4.out]
      go_roundw
      case rel => exact ⟨k + 1, by go_num, by omega, HB4.out, HN4.out⟩
      case measure => simp [intOf]; omega
    · have hge : ¬ (k : Int) < 2 := by omega
      clear HN
      go_wp2_with fail
      have hnl : NilD wr (.pointer none) := .inl rfl
      refine (open_none ⟨_, rfl⟩ (read_nil hnl ⟨#[109]⟩) (fun W _ => (starts_nil (.inl rfl)).mono (fun e w' h => ⟨0, h⟩)) rfl rfl).mono ?_
      rintro e w1 ⟨rfl, hb1⟩
      have HB1 := Lib.hid (HB.out.trans (hb1.mono HB.out.size))
      clear hb1 hnl
      go_wp2_with fail
      refine (live_new 100 w1 (by omega) (by omega)).mono ?_
      rintro e w2 ⟨v, rfl, hlv⟩
      obtain ⟨bd, rfl⟩ := hlv.ptr
      have HL2 := Lib.hid hlv
      clear hlv
      go_wp2_with fail
      refine (HL2.out.crashP (.slice none 0 0) [] (keepR_nil _ _) (by decide) mn1_eq).mono ?_
      rintro e w3 ⟨rfl, hlv, hkp⟩
      have HL3 := Lib.hid hlv
      clear hlv hkp
      go_wp2_with fail
      refine (open_none (e0 := 51) ⟨_, rfl⟩ (HL3.out.readP ⟨#[109]⟩ ⟨#[]⟩ (n := manN) rfl mn1_read (by decide)) (fun W hW => ((HL3.out.keep hW).starts).mono (fun e w' h => ⟨_, h⟩)) rfl rfl).mono ?_
      rintro e w4 ⟨rfl, hb4⟩
      have HB4 := Lib.hid (HB1.out.trans (((HL3.out.keep hb4).below).mono HB1.out.size))
      clear hb4
      go_wp2_with fail
      refine (mlives_any w4).mono ?_
      rintro e w5 ⟨rfl, hb5⟩
      have HB5 := Lib.hid (HB4.out.trans (hb5.mono HB4.out.size))
      clear hb5
      go_wp2_with fail
      go_ret
      exact ⟨rfl, HB5.out⟩
end Go.Proofs.YtcijhhnbhnaiaaaGreat

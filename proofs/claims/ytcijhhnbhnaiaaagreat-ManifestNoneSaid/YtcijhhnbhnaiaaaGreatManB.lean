/- A manifest does edits; is opened, anew and again: walked. A manifest's file read; a manifest opened, anew and again: walked. -/
import Derived.Test.YtcijhhnbhnaiaaaGreatManA
import Derived.Test.YtcijhhnbhnaiaaaGreatEdEnc2
import Derived.Test.YtcijhhnbhnaiaaaGreatEdDecS
import Derived.Test.YtcijhhnbhnaiaaaGreatFrames2
namespace Go.Proofs.YtcijhhnbhnaiaaaGreat
set_option linter.unusedSimpArgs false
set_option linter.unusedVariables false
set_option maxRecDepth 100000
open Go.RowKit Go.Maps
open Dsk
attribute [local go_sem ↓] Go.wp_at_zero Go.wp_at_succ

section
variable {w0 w w' : World} {X Z Y S : Nat → Prop} {v tv : Value} {d d' : Dk} {m : Nat} {st size r : Int} {bad : Bool} {s : Ed.St}
set_option maxHeartbeats 1000000 in
theorem mdo_down (h : MS w0 X w v d m st false tv s size) (hup : d.off = true) (x : Option Addr) (n c : Nat) :
    Calls Tryz.prog 7 #[.pointer (some ⟨m, 0, none⟩), .slice x n c] w fun e w' => e = .returned (.int .i64 51) ∧ Below w.heap.size w w' := by
  have H := Lib.hid (ask_down h hup)
  clear h hup
  go_enter Tryz.func7, Tryz.ntmps7
  go_wp2_with fail
  refine H.out.mono ?_
  rintro e w1 ⟨rfl, hb⟩
  have HB := Lib.hid hb
  clear hb
  go_wp2_with fail
  go_ret
  exact ⟨rfl, HB.out⟩
set_option maxHeartbeats 1000000 in
theorem mdo_no (h : MS w0 X w v d m st false tv s size) (hup : d.off = false) (hst : d.starts = st) (hf : Fits s.l) {lv : Value} {l : List Ed.Edit} (hl : RdE w lv l) (hll : l.length ≤ 1000)
    (hok : ∀ (j : Nat) (hj : j < l.length), EdOk l[j]) (hall : allQ s l = none) :
    Calls Tryz.prog 7 #[.pointer (some ⟨m, 0, none⟩), lv] w fun e w' => e = .returned (.int .i64 2) ∧ Below w.heap.size w w' := by
  have H := Lib.hid (ask_ok h hup hst)
  have HALL := Lib.hid (fun (W : World) (hW : Below w.heap.size w W) => by
    have := all_any tv s lv l W (h.rows.rd.below hW) hf (hl.below hW) hll hok
    rw [hall] at this
    exact this)
  unfold AppPost stV at HALL
  obtain ⟨bd, rfl⟩ := h.live.ptr
  obtain ⟨_, _, _, c3, c4, c5, _⟩ := blk7 h.blk
  obtain ⟨tx, tc, htv, _⟩ := h.rows.rd
  subst htv
  obtain ⟨lx, lc, hlv, _⟩ := hl
  subst hlv
  have hlm := h.blk.lt
  clear h hup hst hf hll hok hall
  go_enter Tryz.func7, Tryz.ntmps7
  go_wp2_with fail
  refine H.out.mono ?_
  rintro e w1 ⟨rfl, hb1⟩
  have g3 := (hb1.cell (p := ⟨m, 3, none⟩) hlm).trans c3
  have g4 := (hb1.cell (p := ⟨m, 4, none⟩) hlm).trans c4
  have g5 := (hb1.cell (p := ⟨m, 5, none⟩) hlm).trans c5
  have HB1 := Lib.hid hb1
  clear hb1 c3 c4 c5
  go_wp2_with fail
  refine (HALL.out w1 HB1.out).mono ?_
  rintro e w2 ⟨hb2, hres⟩
  subst hres
  have HB2 := Lib.hid (HB1.out.trans (hb2.mono HB1.out.size))
  have hz2 := HB2.out.size
  clear hb2 g3 g4 g5
  go_wp2_with fail
  go_ret
  exact ⟨rfl, HB2.out.alloc hz2 _⟩
set_option maxHeartbeats 4000000 in
theorem mdo_any (h : MS w0 X w v d m st false tv s size) (hup : d.off = false) (hst : d.starts = st) (hf : Fits s.l) {lv : Value} {l : List Ed.Edit} (hl : RdE w lv l) (hll : l.length ≤ 1000) (hne : 0 < l.length)
    (hok : ∀ (j : Nat) (hj : j < l.length), EdOk l[j]) (hfit : ∀ e ∈ l, EncFit e) {s' : Ed.St} (hall : allQ s l = some s') (hsz : 0 ≤ size ∧ size < 2000)
    {d1 d2 : Dk} {text : List UInt8} (htx : Frm.frame (Ed.enc l) = text) (hlen : (Ed.enc l).length ≤ 16384) (e1 : d.append manN text = (0, d1)) (e2 : d1.sync manN = (0, d2)) :
    Calls Tryz.prog 7 #[.pointer (some ⟨m, 0, none⟩), lv] w fun e w' => e = .returned (.int .i64 0) ∧ ∃ Y tv', (∀ k, X k → Y k) ∧ MS w0 Y w' v d2 m st false tv' s' (size + text.length) := by
  have H := Lib.hid (ask_ok h hup hst)
  have HM := Lib.hid h
  have HALL := Lib.hid (fun (W : World) (hW : Below w.heap.size w W) => by
    have := all_any tv s lv l W (h.rows.rd.below hW) hf (hl.below hW) hll hok
    rw [hall] at this
    exact this)
  unfold AppPost stV at HALL
  have hsz2 : (encAB l).size = (Ed.enc l).length := by unfold encAB; exact List.size_toArray
  have HENC := Lib.hid (fun (W : World) (hW : Below w.heap.size w W) => encode_ed lv l W (hl.below hW) hll hfit)
  have HFR := Lib.hid (fun W => by
    have := frame_short (encAB l) W (by rw [hsz2]; exact hlen)
    rw [show (encAB l).data.toList = Ed.enc l by unfold encAB; simp, htx] at this
    exact this)
  have htl : text.length ≤ 16392 := by rw [← htx, Frm.frame_length]; omega
  have htz : (⟨text.toArray⟩ : ByteArray).size = text.length := List.size_toArray
  obtain ⟨T, hT0⟩ : ∃ T : ByteArray, T = ⟨text.toArray⟩ := ⟨_, rfl⟩
  obtain ⟨B, hB0⟩ : ∃ B, B = encAB l := ⟨_, rfl⟩
  rw [← hT0] at HFR htz
  rw [← hB0] at HENC HFR
  have HTT := Lib.hid (show T.data.toList = text by rw [hT0])
  rw [← htz] at htl ⊢
  have E1 := Lib.hid e1
  have E2 := Lib.hid e2
  obtain ⟨bd, rfl⟩ := h.live.ptr
  obtain ⟨c0, _, _, c3, c4, c5, c6⟩ := blk7 h.blk
  obtain ⟨tx, tc, htv, _⟩ := h.rows.rd
  subst htv
  obtain ⟨lx, lc, hlv, _⟩ := hl
  subst hlv
  have hlm := h.blk.lt
  have hn0 : ((l.length : Int) == 0) = false := by rw [beq_eq_false_iff_ne]; omega
  have hge : ¬ (2000 : Int) ≤ size := by omega
  have hwrap : IntKind.i64.wrap (size + T.size) = size + T.size := IntWalk.i64_in _ ⟨by omega, by omega⟩
  obtain ⟨n, hn⟩ : ∃ n, n = l.length := ⟨_, rfl⟩
  rw [← hn] at hn0 HALL HENC ⊢
  clear h hup hst hf hll hok hall htx hlen e1 e2 hT0 hB0 htz hsz2 hfit hne hn
  go_enter Tryz.func7, Tryz.ntmps7
  go_wp2_with fail
  refine H.out.mono ?_
  rintro e w1 ⟨rfl, hb1⟩
  have g3 := (hb1.cell (p := ⟨m, 3, none⟩) hlm).trans c3
  have g4 := (hb1.cell (p := ⟨m, 4, none⟩) hlm).trans c4
  have g5 := (hb1.cell (p := ⟨m, 5, none⟩) hlm).trans c5
  have HB1 := Lib.hid hb1
  have HM1 := Lib.hid (HM.out.below hb1)
  clear hb1 c0 c3 c4 c5 c6
  go_wp2_with fail
  refine (HALL.out w1 HB1.out).mono ?_
  rintro e w2 ⟨hb2, tv', rfl, hr⟩
  have HB2 := Lib.hid (HB1.out.trans (hb2.mono HB1.out.size))
  have HR2 := Lib.hid hr
  obtain ⟨tx', tc', htv', _⟩ := hr
  subst htv'
  obtain ⟨w3, hw3⟩ : ∃ w3, w3 = w2.alloc (.cells #[.slice tx' s'.l.length tc', .int .i64 s'.log, .int .i64 s'.next] 28 (0, 0)) := ⟨_, rfl⟩
  have b3 : Below w2.heap.size w2 w3 := by rw [hw3]; exact (Below.refl _ _).alloc (Nat.le_refl _) _
  have k3 : Blk w3 w2.heap.size 28 #[.slice tx' s'.l.length tc', .int .i64 s'.log, .int .i64 s'.next] := by rw [hw3]; exact Blk.alloc_new _ _ _
  have HB3 := Lib.hid (HB2.out.trans (b3.mono HB2.out.size))
  obtain ⟨_, _, _, _, _, _, c6⟩ := blk7 (HM1.out.below (hb2.trans (b3.mono hb2.size))).blk
  rw [hw3] at c6
  have K3 := Lib.hid k3
  have HW3 := Lib.hid hw3
  have HR3 := Lib.hid (HR2.out.rdx.below b3)
  have hz12 := hb2.size
  have hz23 := K3.out.lt
  have hz01 := HB1.out.size
  have Hz := Lib.hid (show w.heap.size ≤ w1.heap.size ∧ w1.heap.size ≤ w2.heap.size from ⟨hz01, hz12⟩)
  clear hb2 b3 k3 g3 g4 g5 hw3
  go_wp2_with fail
  rw [← HW3.out]
  refine (HENC.out w3 HB3.out).mono ?_
  rintro e w4 ⟨rfl, hb4⟩
  have HB4 := Lib.hid (HB3.out.trans (hb4.mono HB3.out.size))
  have K4 := Lib.hid (K3.out.below hb4)
  have HR4 := Lib.hid (HR3.out.below hb4)
  clear hb4 c6
  go_wp2_with fail
  refine (HFR.out w4).mono ?_
  rintro e w5 ⟨rfl, hb5⟩
  have HB5 := Lib.hid (HB4.out.trans (hb5.mono HB4.out.size))
  have K5 := Lib.hid (K4.out.below hb5)
  have HR5 := Lib.hid (HR4.out.below hb5)
  have HM5 := Lib.hid (HM.out.add HB5.out)
  have HAP := Lib.hid (HM5.out.live.appendK ⟨#[109]⟩ T (n := manN) rfl (show d.append manN T.data.toList = (0, d1) by rw [HTT.out]; exact E1.out) (by decide) (by unfold maxLen; omega))
  obtain ⟨c0, _⟩ := blk7 HM5.out.blk
  clear hb5
  go_wp2_with fail
  refine HAP.out.mono ?_
  rintro e w6 ⟨rfl, hl6, hk6⟩
  have HM6 := Lib.hid (HM5.out.turn hl6 hk6)
  have HSY := Lib.hid (hl6.syncK ⟨#[109]⟩ (n := manN) rfl E2.out (by decide))
  have HK6 := Lib.hid hk6
  clear hl6 hk6 c0
  obtain ⟨c0, _⟩ := blk7 HM6.out.blk
  go_wp2_with fail
  refine HSY.out.mono ?_
  rintro e w7 ⟨rfl, hl7, hk7⟩
  have HM7 := Lib.hid (HM6.out.turn hl7 hk7)
  have HK7 := Lib.hid (HK6.out.trans hk7)
  have hz5 := HB5.out.size
  have hq3 : w2.heap.size < w5.heap.size := K5.out.lt
  have K7 := Lib.hid (K5.out.chg HK7.out (fun e => e (.inr ⟨by omega, hq3⟩)))
  have HR7 := Lib.hid (HR5.out.chg HK7.out (fun k hk e => e (.inr ⟨by have := hk.1; omega, by have := hk.2; omega⟩)))
  clear hl7 hk7 c0
  go_wp2_with fail
  refine wp_region_two (T := fun W => W.cell? ⟨w2.heap.size, 0, none⟩ = some (.slice tx' s'.l.length tc') ∧ W.cell? ⟨w2.heap.size, 1, none⟩ = some (.int .i64 s'.log) ∧ W.cell? ⟨w2.heap.size, 2, none⟩ = some (.int .i64 s'.next)) (S := fun W => W.cell? ⟨m, 6, none⟩ = some (.int .i64 size)) (n := 15) (by kernel_rfl) ?_
  obtain ⟨y1, hy1⟩ : ∃ y1, y1 = w7.drew := ⟨_, rfl⟩
  rw [← hy1]
  have hb7 : Below w7.heap.size w7 y1 := by rw [hy1]; exact (Below.refl _ _).drew
  have HM8 := Lib.hid (HM7.out.below hb7)
  have HR8 := Lib.hid (HR7.out.below hb7)
  have K8 := Lib.hid (K7.out.below hb7)
  have hT : y1.cell? ⟨w2.heap.size, 0, none⟩ = some (.slice tx' s'.l.length tc') ∧ y1.cell? ⟨w2.heap.size, 1, none⟩ = some (.int .i64 s'.log) ∧ y1.cell? ⟨w2.heap.size, 2, none⟩ = some (.int .i64 s'.next) := by
    obtain ⟨x0, x1, x2, _⟩ := blk3 K8.out
    exact ⟨x0, x1, x2⟩
  have hS : y1.cell? ⟨m, 6, none⟩ = some (.int .i64 size) := by
    obtain ⟨_, _, _, _, _, _, x6⟩ := blk7 HM8.out.blk
    exact x6
  clear hy1 hb7
  refine two_takeT 0 (some 76) (v := ?_) rfl rfl (by kernel_rfl) (by kernel_rfl) (by kernel_rfl) (by decide) (fun _ _ _ h => h) (Or.inl ⟨by rfl, ?hy0⟩) hT hS ?_
  case hy0 => (intro w' hT'; (try unfold T8 at hT'); (try unfold T9 at hT'); (try unfold S8 at hT'); go_simp; (try with_reducible rfl))
  try simp only [Act.put, List.setIfInBounds_toArray, List.set_cons_zero, List.set_cons_succ]
  refine two_takeT 1 (some 77) (v := ?_) rfl rfl (by kernel_rfl) (by kernel_rfl) (by kernel_rfl) (by decide) (fun _ _ _ h => h) (Or.inl ⟨by rfl, ?hy1⟩) hT hS ?_
  case hy1 => (intro w' hT'; (try unfold T8 at hT'); (try unfold T9 at hT'); (try unfold S8 at hT'); go_simp; (try with_reducible rfl))
  try simp only [Act.put, List.setIfInBounds_toArray, List.set_cons_zero, List.set_cons_succ]
  refine two_takeT 2 (some 78) (v := ?_) rfl rfl (by kernel_rfl) (by kernel_rfl) (by kernel_rfl) (by decide) (fun _ _ _ h => h) (Or.inl ⟨by rfl, ?hy2⟩) hT hS ?_
  case hy2 => (intro w' hT'; (try unfold T8 at hT'); (try unfold T9 at hT'); (try unfold S8 at hT'); go_simp; (try with_reducible rfl))
  try simp only [Act.put, List.setIfInBounds_toArray, List.set_cons_zero, List.set_cons_succ]
  refine two_takeT 3 (some 79) (v := ?_) rfl rfl (by kernel_rfl) (by kernel_rfl) (by kernel_rfl) (by decide) (fun _ _ _ h => h) (Or.inl ⟨by rfl, ?hy3⟩) hT hS ?_
  case hy3 => (intro w' hT'; (try unfold T8 at hT'); (try unfold T9 at hT'); (try unfold S8 at hT'); go_simp; (try with_reducible rfl))
  try simp only [Act.put, List.setIfInBounds_toArray, List.set_cons_zero, List.set_cons_succ]
  refine two_takeT 4 (some 80) (v := ?_) rfl rfl (by kernel_rfl) (by kernel_rfl) (by kernel_rfl) (by decide) (fun _ _ _ h => h) (Or.inl ⟨by rfl, ?hy4⟩) hT hS ?_
  case hy4 => (intro w' hT'; (try unfold T8 at hT'); (try unfold T9 at hT'); (try unfold S8 at hT'); go_simp; (try with_reducible rfl))
  try simp only [Act.put, List.setIfInBounds_toArray, List.set_cons_zero, List.set_cons_succ]
  refine two_takeT 5 (some 81) (v := ?_) rfl rfl (by kernel_rfl) (by kernel_rfl) (by kernel_rfl) (by decide) (fun _ _ _ h => h) (Or.inl ⟨by rfl, ?hy5⟩) hT hS ?_
  case hy5 => (intro w' hT'; (try unfold T8 at hT'); (try unfold T9 at hT'); (try unfold S8 at hT'); go_simp; (try with_reducible rfl))
  try simp only [Act.put, List.setIfInBounds_toArray, List.set_cons_zero, List.set_cons_succ]
  refine two_take 6 (some 82) (v := ?_) rfl rfl (by kernel_rfl) (by kernel_rfl) (by kernel_rfl) (by kernel_rfl) (by decide) (by kernel_rfl) (fun _ _ _ h => h) (Or.inl ⟨by rfl, ?hy6⟩) hT hS ?_
  case hy6 => (intro w' hS'; (try unfold S8 at hS'); (try unfold T8 at hS'); go_simp; (try with_reducible rfl))
  try simp only [Act.put, List.setIfInBounds_toArray, List.set_cons_zero, List.set_cons_succ]
  refine two_takeT 7 (some 83) (v := ?_) rfl rfl (by kernel_rfl) (by kernel_rfl) (by kernel_rfl) (by decide) (fun _ _ _ h => h) (Or.inl ⟨by rfl, ?hy7⟩) hT hS ?_
  case hy7 => (intro w' hT'; (try unfold T8 at hT'); (try unfold T9 at hT'); (try unfold S8 at hT'); go_simp; (try with_reducible rfl))
  try simp only [Act.put, List.setIfInBounds_toArray, List.set_cons_zero, List.set_cons_succ]
  refine two_takeT 8 (some 84) (v := ?_) rfl rfl (by kernel_rfl) (by kernel_rfl) (by kernel_rfl) (by decide) (fun _ _ _ h => h) (Or.inl ⟨by rfl, ?hy8⟩) hT hS ?_
  case hy8 => (intro w' hT'; (try unfold T8 at hT'); (try unfold T9 at hT'); (try unfold S8 at hT'); go_simp; (try with_reducible rfl))
  try simp only [Act.put, List.setIfInBounds_toArray, List.set_cons_zero, List.set_cons_succ]
  refine two_takeT 9 (some 85) (v := ?_) rfl rfl (by kernel_rfl) (by kernel_rfl) (by kernel_rfl) (by decide) (fun _ _ _ h => h) (Or.inl ⟨by rfl, ?hy9⟩) hT hS ?_
  case hy9 => (intro w' hT'; (try unfold T8 at hT'); (try unfold T9 at hT'); (try unfold S8 at hT'); go_simp; (try with_reducible rfl))
  try simp only [Act.put, List.setIfInBounds_toArray, List.set_cons_zero, List.set_cons_succ]
  refine two_takeT 10 (some 86) (v := ?_) rfl rfl (by kernel_rfl) (by kernel_rfl) (by kernel_rfl) (by decide) (fun _ _ _ h => h) (Or.inl ⟨by rfl, ?hy10⟩) hT hS ?_
  case hy10 => (intro w' hT'; (try unfold T8 at hT'); (try unfold T9 at hT'); (try unfold S8 at hT'); go_simp; (try with_reducible rfl))
  try simp only [Act.put, List.setIfInBounds_toArray, List.set_cons_zero, List.set_cons_succ]
  refine two_takeT 11 (some 87) (v := ?_) rfl rfl (by kernel_rfl) (by kernel_rfl) (by kernel_rfl) (by decide) (fun _ _ _ h => h) (Or.inl ⟨by rfl, ?hy11⟩) hT hS ?_
  case hy11 => (intro w' hT'; (try unfold T8 at hT'); (try unfold T9 at hT'); (try unfold S8 at hT'); go_simp; (try with_reducible rfl))
  try simp only [Act.put, List.setIfInBounds_toArray, List.set_cons_zero, List.set_cons_succ]
  obtain ⟨_, _, _, f3, f4, f5, f6⟩ := blk7f HM8.out.blk
  obtain ⟨_, _, _, x3, x4, x5, _⟩ := blk7 HM8.out.blk
  refine two_one 12 rfl (by kernel_rfl) ?_
  intro K hK
  go_simp
  obtain ⟨y2, hy2⟩ : ∃ y2, y2 = ((y1.setCell ⟨m, 3, none⟩ (.slice tx' s'.l.length tc')).setCell ⟨m, 4, none⟩ (.int .i64 s'.log)).setCell ⟨m, 5, none⟩ (.int .i64 s'.next) := ⟨_, rfl⟩
  rw [← hy2]
  have z2 : Chg (fun g => g = m) y1 y2 := by rw [hy2]; exact (((Chg.refl _ _).setCell (S := fun g => g = m) (fun _ => rfl) _).setCell (S := fun g => g = m) (fun _ => rfl) _).setCell (S := fun g => g = m) (fun _ => rfl) _
  have z1 : Blk y2 m 35 #[.pointer (some ⟨bd, 0, none⟩), .int .i64 st, .bool false, .slice tx' s'.l.length tc', .int .i64 s'.log, .int .i64 s'.next, .int .i64 size] := by
    rw [hy2]; exact ((HM8.out.blk.set 3 _).set 4 _).set 5 _
  have hne : ¬ w2.heap.size = m := by omega
  have hT1 : y2.cell? ⟨w2.heap.size, 0, none⟩ = some (.slice tx' s'.l.length tc') ∧ y2.cell? ⟨w2.heap.size, 1, none⟩ = some (.int .i64 s'.log) ∧ y2.cell? ⟨w2.heap.size, 2, none⟩ = some (.int .i64 s'.next) :=
    ⟨(z2.cell (p := ⟨w2.heap.size, 0, none⟩) K8.out.lt hne).trans hT.1, (z2.cell (p := ⟨w2.heap.size, 1, none⟩) K8.out.lt hne).trans hT.2.1, (z2.cell (p := ⟨w2.heap.size, 2, none⟩) K8.out.lt hne).trans hT.2.2⟩
  have hS1 : y2.cell? ⟨m, 6, none⟩ = some (.int .i64 size) := by
    obtain ⟨_, _, _, _, _, _, x6⟩ := blk7 z1
    exact x6
  refine hK.out _ _ hT1 (fun _ _ => hS1) ?_
  have HZ1 := Lib.hid z1
  have HZ2 := Lib.hid z2
  clear hK K hT hS hy2 z1 z2 f3 f4 f5 f6 x3 x4 x5
  have hT := hT1
  have hS := hS1
  clear hT1 hS1
  try simp only [Act.put, List.setIfInBounds_toArray, List.set_cons_zero, List.set_cons_succ]
  refine two_takeT 13 (some 88) (v := ?_) rfl rfl (by kernel_rfl) (by kernel_rfl) (by kernel_rfl) (by decide) (fun _ _ _ h => h) (Or.inl ⟨by rfl, ?hy13⟩) hT hS ?_
  case hy13 => (intro w' hT'; (try unfold T8 at hT'); (try unfold T9 at hT'); (try unfold S8 at hT'); go_simp; (try with_reducible rfl))
  try simp only [Act.put, List.setIfInBounds_toArray, List.set_cons_zero, List.set_cons_succ]
  refine two_takeT 14 (some 89) (v := ?_) rfl rfl (by kernel_rfl) (by kernel_rfl) (by kernel_rfl) (by decide) (fun _ _ _ h => h) (Or.inl ⟨by rfl, ?hy14⟩) hT hS ?_
  case hy14 => (intro w' hT'; (try unfold T8 at hT'); (try unfold T9 at hT'); (try unfold S8 at hT'); go_simp; (try with_reducible rfl))
  try simp only [Act.put, List.setIfInBounds_toArray, List.set_cons_zero, List.set_cons_succ]
  obtain ⟨_, _, _, _, _, _, f6⟩ := blk7f HZ1.out
  refine two_one 15 rfl (by kernel_rfl) ?_
  intro K hK
  go_simp
  have hT1 : (y2.setCell ⟨m, 6, none⟩ (.int .i64 (size + T.size))).cell? ⟨w2.heap.size, 0, none⟩ = some (.slice tx' s'.l.length tc') ∧ (y2.setCell ⟨m, 6, none⟩ (.int .i64 (size + T.size))).cell? ⟨w2.heap.size, 1, none⟩ = some (.int .i64 s'.log) ∧ (y2.setCell ⟨m, 6, none⟩ (.int .i64 (size + T.size))).cell? ⟨w2.heap.size, 2, none⟩ = some (.int .i64 s'.next) := by
    have hl := (K8.out.chg HZ2.out hne).lt
    exact ⟨((put_wr y2 m 6 _).cell (p := ⟨w2.heap.size, 0, none⟩) hl hne).trans hT.1, ((put_wr y2 m 6 _).cell (p := ⟨w2.heap.size, 1, none⟩) hl hne).trans hT.2.1, ((put_wr y2 m 6 _).cell (p := ⟨w2.heap.size, 2, none⟩) hl hne).trans hT.2.2⟩
  refine hK.out _ _ hT1 (fun _ e => absurd rfl e) ?_
  refine two_done (by kernel_rfl) ?_ _
  have hch : Chg (fun g => g = m) y1 (y2.setCell ⟨m, 6, none⟩ (.int .i64 (size + T.size))) := HZ2.out.trans (put_wr y2 m 6 _)
  have HMS := Lib.hid (HM8.out.own (st' := st) (size' := size + T.size) (bad' := false) (tv' := .slice tx' s'.l.length tc') (s' := s') hch (HZ1.out.set 6 _) ((HR8.out.weak (fun k hk => show Also X w w5 k ∧ k ≠ m from ⟨.inr ⟨by have := hk.1; omega, by have := hk.2; omega⟩, by have := hk.1; omega⟩)).chg hch (fun k hk e => hk.2 e)))
  clear hK K hT hS hT1 hch f6
  go_wp2_with fail
  go_ret
  exact ⟨rfl, _, _, fun _ e => .inl e, HMS.out⟩
end
end Go.Proofs.YtcijhhnbhnaiaaaGreat
namespace Go.Proofs.YtcijhhnbhnaiaaaGreat
set_option linter.unusedSimpArgs false
set_option linter.unusedVariables false
set_option maxRecDepth 100000
open Go.RowKit Go.Maps
open Dsk

section
variable {w0 w w' : World} {X Z Y S : Nat → Prop} {v tv : Value} {d d' : Dk} {m : Nat} {st size r : Int} {bad : Bool} {s : Ed.St}
/-- A row of two texts, and its second half. -/
theorem two_texts {w : World} {B : Nat} {v : Value} {a b : ByteArray} (h : OwnS w B v [a, b]) : ∃ g c, v = .slice (some ⟨g, 0, none⟩) 2 c ∧ 2 ≤ c ∧ B ≤ g ∧ g < w.heap.size ∧ w.cell? ⟨g, 0, none⟩ = some (.string a) ∧ w.cell? ⟨g, 1, none⟩ = some (.string b) := by
  have hlt := World.ownsRow.lt h
  have hcs := fun g (hg : v.ownBlock = some g) => World.ownsRow.cells h hg
  obtain ⟨h1, h2⟩ := h
  rcases h2 with ⟨rfl, h2⟩ | ⟨g, cap, cur, hv, hg, hh, hc, r⟩
  · cases h2
  · refine ⟨g, cap, hv, hc, hg, (hlt g (by rw [hv]; rfl)).2, ?_, ?_⟩
    · have := hcs g (by rw [hv]; rfl) 0 (.string a) rfl
      exact this
    · have := hcs g (by rw [hv]; rfl) 1 (.string b) rfl
      exact this
/-- A state without files, read where another block turns. -/
theorem RdT.apart {w w' : World} {r : Nat} {v a b c : Value} {l : List Ed.Tab} {t : TypeId} (h : RdT w v l) (hE : ∀ (j : Nat) (hj : j < l.length), l[j].tabs = []) (hb : Blk w r t #[a, b, c]) (hn : ∀ s : ByteArray, a ≠ .string s ∧ b ≠ .string s ∧ c ≠ .string s) (x : Chg (fun g => g = r) w w') : RdT w' v l := by
  obtain ⟨y, cc, e, h⟩ := h
  refine ⟨y, cc, e, fun j hj => ?_⟩
  obtain ⟨g, off, tv, h1, h2, h3, h4, h5⟩ := h j hj
  have hg : ¬ g = r := fun e => by
    subst e
    rw [hb.cell] at h3
    obtain ⟨n1, n2, n3⟩ := hn l[j].frm
    rcases (show off + j * 2 = 0 ∨ off + j * 2 = 1 ∨ off + j * 2 = 2 ∨ 3 ≤ off + j * 2 by omega) with e | e | e | e
    · rw [e] at h3; exact n1 (by simpa using h3)
    · rw [e] at h3; exact n2 (by simpa using h3)
    · rw [e] at h3; exact n3 (by simpa using h3)
    · rw [Array.getElem?_eq_none (by simpa using e)] at h3; cases h3
  refine ⟨g, off, tv, h1, Nat.lt_of_lt_of_le h2 x.size, (x.cell (p := ⟨g, _, none⟩) h2 hg).trans h3, (x.cell (p := ⟨g, _, none⟩) h2 hg).trans h4, ?_⟩
  rw [hE j hj] at h5 ⊢
  obtain ⟨x1, c1, e1, _⟩ := h5.form
  exact .inl ⟨x1, c1, e1, rfl⟩
set_option maxHeartbeats 4000000 in
theorem read_two (text : ByteArray) {b0 b1 : List UInt8} {s0 s' : Ed.St} {l : List Ed.Edit} (w : World) (hm : text.size ≤ 100000)
    (hw : Frm.whole text.size text.data.toList = ([b0, b1], text.size)) (h0 : Ed.decS b0 = some (s0, b0.length)) (he0 : Ed.encS s0 = b0) (hv0 : Ed.Valid s0)
    (h1 : Ed.decE b1 = some (l, b1.length)) (he1 : Ed.enc l = b1) (hll : l.length ≤ 1000) (hfit : ∀ e ∈ l, EncFit e) (hok : ∀ (j : Nat) (hj : j < l.length), EdOk l[j]) (hz0 : b0.length ≤ 1000) (hz1 : b1.length ≤ 1000) (hall : allQ s0 l = some s') (hE : ∀ (j : Nat) (hj : j < s0.l.length), s0.l[j].tabs = []) :
    Calls Tryz.prog 25 #[.string text] w fun e w' => ∃ tv', e = .returned (.tuple #[stV tv' s'.log s'.next, .bool true, .bool true]) ∧ RdTB w' w.heap.size tv' s'.l ∧ Below w.heap.size w w' := by
  have s0z : (strOf b0).size = b0.length := List.size_toArray
  have s1z : (strOf b1).size = b1.length := List.size_toArray
  have s0d : (strOf b0).data.toList = b0 := by simp [strOf]
  have s1d : (strOf b1).data.toList = b1 := by simp [strOf]
  have HW := Lib.hid (fun W => by
    have := fwhole_any text W (by omega)
    rw [hw] at this
    exact this)
  have HD0 := Lib.hid (fun W : World => show Calls Tryz.prog 52 #[.string (strOf b0)] W fun e w' => ∃ tv, e = .returned (.tuple #[stV tv s0.log s0.next, .int .i64 0]) ∧ RdT w' tv s0.l ∧ Below W.heap.size W w' by
    refine (decodeState_any (strOf b0) W (by omega)).mono ?_
    rintro e w' ⟨hb, ⟨tv, t, rfl, hr, hf, hd, hv, hen⟩ | ⟨_, hno⟩⟩
    · rw [s0d, s0z, h0] at hd
      obtain rfl : s0 = t := by injection hd with hd; injection hd
      exact ⟨tv, rfl, hr, hb⟩
    · exact absurd ⟨s0, by rw [s0d, s0z, h0], hv0, by unfold encSB; rw [he0]; rfl⟩ hno)
  have HD1 := Lib.hid (fun W : World => show Calls Tryz.prog 53 #[.string (strOf b1)] W fun e w' => ∃ v, e = .returned (.tuple #[v, .int .i64 0]) ∧ RdE w' v l ∧ Below W.heap.size W w' by
    refine (decode_ed (strOf b1) W (by omega) (fun out ho => by
      rw [s1d, s1z, h1] at ho
      obtain rfl : l = out := by injection ho with ho; injection ho
      exact ⟨hll, hfit⟩)).mono ?_
    rintro e w' ⟨hb, ⟨v, out, rfl, hr, hd, hen⟩ | ⟨_, hno⟩⟩
    · rw [s1d, s1z, h1] at hd
      obtain rfl : l = out := by injection hd with hd; injection hd
      exact ⟨v, rfl, hr, hb⟩
    · exact absurd ⟨l, by rw [s1d, s1z, h1], by unfold encAB; rw [he1]; rfl⟩ hno)
  have HALL := Lib.hid (fun (W : World) (tv lv : Value) (h : RdT W tv s0.l) (hl : RdE W lv l) => by
    have := all_any tv s0 lv l W h (st_fits hv0) hl hll hok
    rw [hall] at this
    exact this)
  have HE := Lib.hid hE
  unfold AppPost stV at HALL
  unfold stV at HD0
  unfold stV
  clear hw h0 he0 hv0 h1 he1 hfit hok hz0 hz1 hall hE s0d s1d s0z s1z
  obtain ⟨w1, hw1⟩ : ∃ w1, w1 = w.alloc (.cells #[.slice none 0 0, .int .i64 0, .int .i64 0] 28 (0, 0)) := ⟨_, rfl⟩
  have hb1 : Below w.heap.size w w1 := by rw [hw1]; exact (Below.refl _ _).alloc (Nat.le_refl _) _
  have hk1 : Blk w1 w.heap.size 28 #[.slice none 0 0, .int .i64 0, .int .i64 0] := by rw [hw1]; exact Blk.alloc_new w _ _
  have K1 := Lib.hid hk1
  have B1 := Lib.hid hb1
  have HW1 := Lib.hid hw1
  clear hb1 hk1 hw1
  go_enter Tryz.func25, Tryz.ntmps25
  go_wp2_with fail
  rw [← HW1.out]
  refine (HW.out w1).mono ?_
  rintro e w2 ⟨⟨v, rfl, hown⟩, hb2⟩
  obtain ⟨g, c, rfl, hc2, hgB, hg, q0, q1⟩ := two_texts (show OwnS w2 w1.heap.size v [strOf b0, strOf b1] from hown)
  have B2 := Lib.hid (B1.out.trans (hb2.mono B1.out.size))
  have K2 := Lib.hid (K1.out.below hb2)
  have Q1 := Lib.hid q1
  clear hown hb2 q1
  have hlen : (List.map strOf [b0, b1]).length = 2 := rfl
  try rw [hlen]
  clear hlen
  go_wp2_with fail
  refine (HD0.out w2).mono ?_
  rintro e w3 ⟨tv, rfl, hr, hb3⟩
  obtain ⟨tx, tc, htv, _⟩ := id hr
  subst htv
  have B3 := Lib.hid (B2.out.trans (hb3.mono B2.out.size))
  have K3 := Lib.hid (K2.out.below hb3)
  have HR3 := Lib.hid hr
  have Q13 := Lib.hid ((hb3.cell (p := ⟨g, 1, none⟩) hg).trans Q1.out)
  have hg3 : g < w3.heap.size := Nat.lt_of_lt_of_le hg hb3.size
  have hgr : ¬ g = w.heap.size := by have := K1.out.lt; omega
  obtain ⟨_, _, _, f0, f1, f2⟩ := blk3 K3.out
  obtain ⟨x0, x1, x2, _⟩ := blk3 K3.out
  clear hr hb3 q0
  go_wp2_with fail
  obtain ⟨w4, hw4⟩ : ∃ w4, w4 = ((w3.setCell ⟨w.heap.size, 0, none⟩ (.slice tx s0.l.length tc)).setCell ⟨w.heap.size, 1, none⟩ (.int .i64 s0.log)).setCell ⟨w.heap.size, 2, none⟩ (.int .i64 s0.next) := ⟨_, rfl⟩
  rw [← hw4]
  obtain ⟨z1, z2⟩ := three_set K3.out w4 hw4
  have HR4 := Lib.hid (HR3.out.apart HE.out K3.out (fun s => ⟨by simp, by simp, by simp⟩) z2)
  have B4 := Lib.hid (B3.out.trans (z2.below B3.out.size fun k hk e => by omega))
  have K4 := Lib.hid z1
  have Q14 := Lib.hid ((z2.cell (p := ⟨g, 1, none⟩) hg3 hgr).trans Q13.out)
  have hg4 : g < w4.heap.size := Nat.lt_of_lt_of_le hg3 z2.size
  clear hw4 z1 z2 x0 x1 x2 f0 f1 f2 hg3
  go_loopw [4, 9, 10, 11, 34] (fun _ _ _ _ v34 wr => ∃ i : Nat, v34 = .int .i64 i ∧ i ≤ 1 ∧ Below w.heap.size w wr ∧ g < wr.heap.size ∧ wr.cell? ⟨g, 1, none⟩ = some (.string (strOf b1)) ∧
    ((i = 0 ∧ Blk wr w.heap.size 28 #[.slice tx s0.l.length tc, .int .i64 s0.log, .int .i64 s0.next] ∧ RdT wr (.slice tx s0.l.length tc) s0.l) ∨
     (i = 1 ∧ ∃ tx' tc', Blk wr w.heap.size 28 #[.slice tx' s'.l.length tc', .int .i64 s'.log, .int .i64 s'.next] ∧ RdTB wr (w.heap.size + 1) (.slice tx' s'.l.length tc') s'.l))) (fun _ _ _ _ v34 _ => 1 - (intOf v34).toNat)
  case atStart => exact ⟨0, rfl, by omega, B4.out, hg4, Q14.out, .inl ⟨rfl, K4.out, HR4.out⟩⟩
  case round =>
    obtain ⟨i, rfl, hi, hb, hgw, hq, hor⟩ := hrel
    have HB := Lib.hid hb
    have HQ := Lib.hid hq
    clear hb hq
    rcases hor with ⟨hi0, hk, hr⟩ | ⟨hi1, tx', tc', hk, hr⟩
    · have hlt : (i : Int) < 1 := by omega
      have q1 : wr.cell? ⟨g, 1 + i, none⟩ = some (.string (strOf b1)) := by rw [hi0]; exact HQ.out
      have KR := Lib.hid hk
      have HRR := Lib.hid hr
      have Hi0 := Lib.hid hi0
      clear hk hr hi0
      go_wp2_with fail
      refine (HD1.out wr).mono ?_
      rintro e w5 ⟨lv, rfl, hre, hb5⟩
      have HRE := Lib.hid hre
      obtain ⟨ex, ec, hlv, _⟩ := hre
      subst hlv
      have B5 := Lib.hid (HB.out.trans (hb5.mono HB.out.size))
      have K5 := Lib.hid (KR.out.below hb5)
      have HR5 := Lib.hid (HRR.out.below hb5)
      have HQ5 := Lib.hid ((hb5.cell (p := ⟨g, 1, none⟩) hgw).trans HQ.out)
      have hg5 : g < w5.heap.size := Nat.lt_of_lt_of_le hgw hb5.size
      obtain ⟨x0, x1, x2, _⟩ := blk3 K5.out
      clear q1 hb5
      go_wp2_with fail
      refine (HALL.out w5 _ _ HR5.out HRE.out).mono ?_
      rintro e w6 ⟨hb6, tv', rfl, hr6⟩
      have HR6 := Lib.hid hr6
      obtain ⟨tx', tc', htv', _⟩ := hr6
      subst htv'
      have B6 := Lib.hid (B5.out.trans (hb6.mono B5.out.size))
      have K6 := Lib.hid (K5.out.below hb6)
      have HQ6 := Lib.hid ((hb6.cell (p := ⟨g, 1, none⟩) hg5).trans HQ5.out)
      have hg6 : g < w6.heap.size := Nat.lt_of_lt_of_le hg5 hb6.size
      have hz5 := K5.out.lt
      obtain ⟨_, _, _, f0, f1, f2⟩ := blk3 K6.out
      obtain ⟨y0, y1, y2, _⟩ := blk3 K6.out
      clear x0 x1 x2 hb6
      go_wp2_with fail
      obtain ⟨w7, hw7⟩ : ∃ w7, w7 = ((w6.setCell ⟨w.heap.size, 0, none⟩ (.slice tx' s'.l.length tc')).setCell ⟨w.heap.size, 1, none⟩ (.int .i64 s'.log)).setCell ⟨w.heap.size, 2, none⟩ (.int .i64 s'.next) := ⟨_, rfl⟩
      rw [← hw7]
      obtain ⟨z1, z2⟩ := three_set K6.out w7 hw7
      have HR7 := Lib.hid ((HR6.out.chg z2 (fun k hk => by have e : k = w.heap.size := hk; omega)).weak (B' := w.heap.size + 1) (by omega))
      have B7 := Lib.hid (B6.out.trans (z2.below B6.out.size fun k hk e => by omega))
      have K7 := Lib.hid z1
      have HQ7 := Lib.hid ((z2.cell (p := ⟨g, 1, none⟩) hg6 hgr).trans HQ6.out)
      have hg7 : g < w7.heap.size := Nat.lt_of_lt_of_le hg6 z2.size
      clear hw7 z1 z2 y0 y1 y2 f0 f1 f2
      go_roundw
      case rel => exact ⟨i + 1, by go_num, by omega, B7.out, hg7, HQ7.out, .inr ⟨by have := Hi0.out; omega, tx', tc', K7.out, HR7.out⟩⟩
      case measure => simp [intOf]; omega
    · have hlt : ¬ (i : Int) < 1 := by omega
      have KR := Lib.hid hk
      have HRR := Lib.hid hr
      obtain ⟨_, _, _, f0, f1, f2⟩ := blk3 hk
      obtain ⟨y0, y1, y2, _⟩ := blk3 hk
      clear hk hr hi1
      go_wp2_with fail
      obtain ⟨w7, hw7⟩ : ∃ w7, w7 = ((wr.setCell ⟨w.heap.size, 0, none⟩ (.slice tx' s'.l.length tc')).setCell ⟨w.heap.size, 1, none⟩ (.int .i64 s'.log)).setCell ⟨w.heap.size, 2, none⟩ (.int .i64 s'.next) := ⟨_, rfl⟩
      rw [← hw7]
      obtain ⟨z1, z2⟩ := three_set KR.out w7 hw7
      obtain ⟨r0, r1, r2, _⟩ := blk3 z1
      have hz5 := K1.out.lt
      have hst : .slice tx' s'.l.length tc' = Value.slice tx' s'.l.length tc' := rfl
      refine bodyPost_ret (v := .tuple #[.agg #[.slice tx' s'.l.length tc', .int .i64 s'.log, .int .i64 s'.next], .bool true, .bool true]) (by simp [results, Tryz.results25, go_sem, r0, r1, r2]) rfl ⟨_, rfl, (HRR.out.chg z2 (fun k hk => by have e : k = w.heap.size := hk; omega)).weak (by omega), HB.out.trans (z2.below HB.out.size fun k hk e => by omega)⟩
/-- A new manifest's block. -/
theorem MS.fresh (h : Live w0 X w v d) {w' : World} {tv : Value} {s : Ed.St} {B : Nat} {st : Int} (hb : Below w.heap.size w w') (hB : w.heap.size ≤ B) (hr : RdTB w' B tv s.l) :
    MS w0 (Also X w (w'.alloc (.cells #[v, .int .i64 st, .bool false, tv, .int .i64 s.log, .int .i64 s.next, .int .i64 0] 35 (0, 0)))) (w'.alloc (.cells #[v, .int .i64 st, .bool false, tv, .int .i64 s.log, .int .i64 s.next, .int .i64 0] 35 (0, 0))) v d w'.heap.size st false tv s 0 := by
  obtain ⟨w2, hw2⟩ : ∃ w2, w2 = w'.alloc (.cells #[v, .int .i64 st, .bool false, tv, .int .i64 s.log, .int .i64 s.next, .int .i64 0] 35 (0, 0)) := ⟨_, rfl⟩
  have b2 : Below w'.heap.size w' w2 := by rw [hw2]; exact (Below.refl _ _).alloc (Nat.le_refl _) _
  have k2 : Blk w2 w'.heap.size 35 #[v, .int .i64 st, .bool false, tv, .int .i64 s.log, .int .i64 s.next, .int .i64 0] := by rw [hw2]; exact Blk.alloc_new _ _ _
  rw [← hw2]
  have hz := hb.size
  have hz2 := k2.lt
  exact ⟨h.add (hb.trans (b2.mono hz)), k2, .inr ⟨hz, hz2⟩, Nat.le_trans h.size hz, (hr.rdx.below b2).weak fun k hk => ⟨.inr ⟨by have := hk.1; omega, by have := hk.2; omega⟩, by have := hk.2; omega⟩⟩
set_option maxHeartbeats 2000000 in
theorem open_fresh (h : Live w0 X w v d) (hup : d.off = false) (hrd : d.read manN = ([], 4)) {d1 d2 d3 : Dk} {text : List UInt8} (htx : Frm.frame (Ed.encS st0) = text) (hlen : (Ed.encS st0).length ≤ 16384) (hv0 : Ed.Valid st0)
    (e1 : d.remove draM = (4, d)) (e2 : d.append draM text = (0, d1)) (e3 : d1.sync draM = (0, d2)) (e4 : d2.rename draM manN = (0, d3)) :
    Calls Tryz.prog 9 #[v] w fun e w' => ∃ m tv Y, e = .returned (.tuple #[.pointer (some ⟨m, 0, none⟩), .int .i64 0]) ∧ MS w0 Y w' v d3 m d.starts false tv st0 text.length := by
  have HRD := Lib.hid (h.readP ⟨#[109]⟩ ⟨#[]⟩ (n := manN) rfl hrd (by decide))
  have H := Lib.hid h
  have HAN := Lib.hid (fun (X : Nat → Prop) (W : World) (m : Nat) (tv : Value) (hM : MS w0 X W v d m d.starts false tv st0 0) => anew_any hM hup rfl hv0 htx hlen e1 e2 e3 e4)
  obtain ⟨bd, rfl⟩ := h.ptr
  clear h hup hrd htx hlen hv0 e1 e2 e3 e4
  go_enter Tryz.func9, Tryz.ntmps9
  go_wp2_with fail
  refine HRD.out.mono ?_
  rintro e w1 ⟨rfl, hb1⟩
  have B1 := Lib.hid hb1
  have HST := Lib.hid (H.out.keep hb1).starts
  clear hb1
  go_wp2_with fail
  refine HST.out.mono ?_
  rintro e w2 ⟨rfl, rfl⟩
  go_wp2_with fail
  refine (first_any w1).mono ?_
  rintro e w3 ⟨tv, rfl, hr, hb3⟩
  unfold stV
  obtain ⟨tx, tc, htv, _⟩ := hr.rd
  subst htv
  have HM := Lib.hid (MS.fresh (st := d.starts) H.out (B1.out.trans (hb3.mono B1.out.size)) B1.out.size hr)
  clear hr hb3
  go_wp2_with fail
  refine (HAN.out _ _ _ _ HM.out).mono ?_
  rintro e w4 ⟨rfl, Y, _, hY⟩
  have HY := Lib.hid hY
  clear hY
  go_wp2_with fail
  go_ret2
  exact ⟨_, _, _, rfl, HY.out⟩
set_option maxHeartbeats 2000000 in
theorem open_again (h : Live w0 X w v d) (text : ByteArray) (hrd : d.read manN = (text.data.toList, 0)) {s' : Ed.St}
    (hread : ∀ W : World, Calls Tryz.prog 25 #[.string text] W fun e w' => ∃ tv', e = .returned (.tuple #[stV tv' s'.log s'.next, .bool true, .bool true]) ∧ RdTB w' W.heap.size tv' s'.l ∧ Below W.heap.size W w') :
    Calls Tryz.prog 9 #[v] w fun e w' => ∃ m tv Y, e = .returned (.tuple #[.pointer (some ⟨m, 0, none⟩), .int .i64 0]) ∧ MS w0 Y w' v d m d.starts false tv s' text.size ∧ Below w.heap.size w w' := by
  have HRD := Lib.hid (h.readP ⟨#[109]⟩ text (n := manN) rfl hrd (by decide))
  have H := Lib.hid h
  have HRE := Lib.hid hread
  unfold stV at HRE
  obtain ⟨bd, rfl⟩ := h.ptr
  clear h hrd hread
  go_enter Tryz.func9, Tryz.ntmps9
  go_wp2_with fail
  refine HRD.out.mono ?_
  rintro e w1 ⟨rfl, hb1⟩
  have B1 := Lib.hid hb1
  have HST := Lib.hid (H.out.keep hb1).starts
  clear hb1
  go_wp2_with fail
  refine HST.out.mono ?_
  rintro e w2 ⟨rfl, rfl⟩
  go_wp2_with fail
  refine (first_any w1).mono ?_
  rintro e w3 ⟨tv, rfl, hr, hb3⟩
  unfold stV
  obtain ⟨tx, tc, htv, _⟩ := hr.rd
  subst htv
  obtain ⟨w4, hw4⟩ : ∃ w4, w4 = w3.alloc (.cells #[.pointer (some ⟨bd, 0, none⟩), .int .i64 d.starts, .bool false, .slice tx st0.l.length tc, .int .i64 1, .int .i64 2, .int .i64 0] 35 (0, 0)) := ⟨_, rfl⟩
  have hm := MS.fresh (st := d.starts) (s := st0) H.out (B1.out.trans (hb3.mono B1.out.size)) B1.out.size hr
  have hm4 : MS w0 (Also X w w4) w4 (.pointer (some ⟨bd, 0, none⟩)) d w3.heap.size d.starts false (.slice tx st0.l.length tc) st0 0 := by rw [hw4]; exact hm
  have HM := Lib.hid hm4
  have B4 := Lib.hid (show Below w.heap.size w w4 by rw [hw4]; exact (B1.out.trans (hb3.mono B1.out.size)).alloc (B1.out.trans (hb3.mono B1.out.size)).size _)
  have HW4 := Lib.hid hw4
  have Hz3 := Lib.hid (B1.out.trans (hb3.mono B1.out.size)).size
  clear hr hb3 hm hm4 hw4
  go_wp2_with fail
  rw [← HW4.out]
  refine (HRE.out w4).mono ?_
  rintro e w5 ⟨tv', rfl, hr5, hb5⟩
  have HR5 := Lib.hid hr5
  obtain ⟨tx', tc', htv', _⟩ := hr5.rd
  subst htv'
  have HM5 := Lib.hid (HM.out.add hb5)
  have B5 := Lib.hid (B4.out.trans (hb5.mono B4.out.size))
  have HZ := Lib.hid hb5.size
  clear hr5 hb5
  obtain ⟨_, _, _, x3, x4, x5, x6⟩ := blk7 HM5.out.blk
  obtain ⟨_, _, _, f3, f4, f5, f6⟩ := blk7f HM5.out.blk
  have hlm := HM5.out.blk.lt
  go_wp2_with fail
  obtain ⟨w6, hw6⟩ : ∃ w6, w6 = (((w5.setCell ⟨w3.heap.size, 3, none⟩ (.slice tx' s'.l.length tc')).setCell ⟨w3.heap.size, 4, none⟩ (.int .i64 s'.log)).setCell ⟨w3.heap.size, 5, none⟩ (.int .i64 s'.next)).setCell ⟨w3.heap.size, 6, none⟩ (.int .i64 text.size) := ⟨_, rfl⟩
  rw [← hw6]
  have z2 : Chg (fun g => g = w3.heap.size) w5 w6 := by rw [hw6]; exact ((((Chg.refl _ _).setCell (S := fun g => g = w3.heap.size) (fun _ => rfl) _).setCell (S := fun g => g = w3.heap.size) (fun _ => rfl) _).setCell (S := fun g => g = w3.heap.size) (fun _ => rfl) _).setCell (S := fun g => g = w3.heap.size) (fun _ => rfl) _
  have z1 : Blk w6 w3.heap.size 35 #[.pointer (some ⟨bd, 0, none⟩), .int .i64 d.starts, .bool false, .slice tx' s'.l.length tc', .int .i64 s'.log, .int .i64 s'.next, .int .i64 text.size] := by
    rw [hw6]; exact (((HM5.out.blk.set 3 _).set 4 _).set 5 _).set 6 _
  have hz := HZ.out
  have hl4 := HM.out.blk.lt
  have hM6 := HM5.out.own (st' := d.starts) (size' := text.size) (bad' := false) (tv' := .slice tx' s'.l.length tc') (s' := s') z2 z1 ((HR5.out.rdx.weak (fun k hk => show Also (Also X w w4) w4 w5 k ∧ k ≠ w3.heap.size from ⟨.inr hk, by have := hk.1; omega⟩)).chg z2 (fun k hk e => hk.2 e))
  have hz3 : w.heap.size ≤ w3.heap.size := Hz3.out
  have hb6 := B5.out.trans (z2.below B5.out.size fun k hk e => by have e2 : k = w3.heap.size := e; omega)
  obtain ⟨w7, hw7⟩ : ∃ w7, w7 = w6.alloc (.cells #[.slice tx' s'.l.length tc', .int .i64 s'.log, .int .i64 s'.next] 28 (0, 0)) := ⟨_, rfl⟩
  have b7 : Below w6.heap.size w6 w7 := by rw [hw7]; exact (Below.refl _ _).alloc (Nat.le_refl _) _
  rw [← hw7]
  go_ret2
  exact ⟨_, _, _, rfl, hM6.below b7, hb6.trans (b7.mono hb6.size)⟩
set_option maxHeartbeats 2000000 in
theorem open_none {e0 : Int} (hptr : ∃ a, v = .pointer a) (hrd : Calls Tryz.prog 23 #[v, .string ⟨#[109]⟩] w fun e w' => e = .returned (.tuple #[.string ⟨#[]⟩, .int .i64 e0]) ∧ Below w.heap.size w w')
    (hst : ∀ W : World, Below w.heap.size w W → Calls Tryz.prog 24 #[v] W fun e w' => ∃ n : Int, e = .returned (.int .i64 n) ∧ W = w') (h4 : (e0 == 4) = false) (h0 : (e0 == 0) = false) :
    Calls Tryz.prog 9 #[v] w fun e w' => e = .returned (.tuple #[.pointer none, .int .i64 e0]) ∧ Below w.heap.size w w' := by
  have HRD := Lib.hid hrd
  have HST := Lib.hid hst
  obtain ⟨a, rfl⟩ := hptr
  clear hrd hst
  go_enter Tryz.func9, Tryz.ntmps9
  go_wp2_with fail
  refine HRD.out.mono ?_
  rintro e w1 ⟨rfl, hb1⟩
  have B1 := Lib.hid hb1
  clear hb1
  go_wp2_with fail
  refine (HST.out w1 B1.out).mono ?_
  rintro e w2 ⟨n, rfl, rfl⟩
  go_wp2_with fail
  refine (first_any w1).mono ?_
  rintro e w3 ⟨tv, rfl, hr, hb3⟩
  unfold stV
  have B3 := Lib.hid (B1.out.trans (hb3.mono B1.out.size))
  have hz3 := B3.out.size
  obtain ⟨tx, tc, htv, _⟩ := hr.rd
  subst htv
  clear hr hb3
  go_wp2_with fail
  go_ret2
  exact ⟨rfl, B3.out.alloc hz3 _⟩
end
end Go.Proofs.YtcijhhnbhnaiaaaGreat

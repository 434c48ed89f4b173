/- The chapter's host's log, walked. -/
import Derived.Test.YtiepipcankhdnaaGreatDoorHlGr
import Derived.Test.YtiepipcankhdnaaGreatDoorHlV
import Derived.Test.YtiepipcankhdnaaGreatDoorHlW
import Derived.Test.YtiepipcankhdnaaGreatDoorJ7
namespace Go.Proofs.YtiepipcankhdnaaGreatDoor
set_option linter.unusedSimpArgs false
set_option linter.unusedVariables false
set_option maxRecDepth 100000
open Go.RowKit Go.Maps
open Dsk

theorem sameTexts_eq {w : World} {va vb : Value} {l : List ByteArray} (ha : RdS w va l) (hb : RdS w vb l) (hm : l.length ≤ 9223372036854775807) :
    Calls Tryz.prog 39 #[va, vb] w fun e w' => e = .returned (.bool true) ∧ Below w.heap.size w w' := by
  refine (sameTexts_any va vb l l w ha hb hm hm).mono ?_
  rintro e w' ⟨rfl, hb2⟩
  exact ⟨by simp, hb2⟩
theorem ex_lit : strs [ln 0, ln 16] = [⟨#[108, 48]⟩, ⟨#[108, 49, 54]⟩] := by decide +kernel
theorem ex_lit2 : strs [ln 16, ln 17] = [⟨#[108, 49, 54]⟩, ⟨#[108, 49, 55]⟩] := by decide +kernel
section
variable {d : Dk} {l : List Sg} {s R : Nat} {h : Hl}
theorem Cm.bnd (c : Cm d h R l s) (hl : l.length ≤ 1000000) (hn : nextOf l ≤ 1000000) : SgsBnd h.l := by
  rw [c.segs]
  have h1 := c.next_eq
  refine ⟨c.file.sgs.may, fun a ha => ?_, fun a ha => ?_, hl⟩
  · have := (nextOf_above c.file.sgs.chain).1 a ha
    omega
  · have := spans_le l a ha
    omega
end
theorem numbered_small {l : List Sg} (hc : Chained l) (hn : nextOf l ≤ 100000) : (numbered l).length ≤ 100000 := by
  rw [numbered_length]
  have := nextOf_recs hc
  omega
theorem ex_bnd {d : Dk} {h : Hl} {s n : Nat} (hn : n ≤ 17) (c : Cm d h 5000 (lsOf n) s) : SgsBnd h.l := by
  have h2 := lsOf_len n
  have h3 := c.next_eq
  rw [first_lsOf, recs_lsOf, List.length_map, List.length_range] at h3
  exact c.bnd (by omega) (by omega)
theorem spanN_eq : ∀ W : World, (binOp .neq 31 (spV (spanN 15)) (spV (spanN 15))).run Tryz.prog W = .ok (.bool false) W := fun W => by
  rw [span_neq, (spEq_iff _ _).2 rfl]
  rfl
set_option maxHeartbeats 8000000 in
theorem hdoesEx_any (w : World) (he : LEnv w) : Calls Tryz.prog 20 #[] w fun e w' => e = .returned (.bool true) ∧ Below w.heap.size w w' := by
  have HE := Lib.hid he
  clear he
  go_enter Tryz.func20, Tryz.ntmps20
  go_wp2_with fail
  refine (live_new 5000 w (by omega) (by omega)).mono ?_
  rintro e w1 ⟨v, rfl, hl1⟩
  obtain ⟨bd, rfl⟩ := hl1.ptr
  have HL1 := Lib.hid hl1
  clear hl1
  go_wp2_with fail
  refine (hopen_new HL1.out rfl rfl).mono ?_
  rintro e w2 ⟨j, rfl, N, hN, hs, hk⟩
  have HHS2 := Lib.hid hs
  clear hN hs hk
  go_wp2_with fail
  go_loopw [5] (fun v5 wr => ∃ (k : Nat) (d : Dk) (h : Hl) (X H : Nat → Prop), v5 = .int .i64 k ∧ k ≤ 17 ∧ HS w X H wr (.pointer (some ⟨bd, 0, none⟩)) d j h ∧ Cm d h 5000 (lsOf k) 0) (fun v5 _ => 17 - (intOf v5).toNat)
  case atStart => exact ⟨0, Dk.new 5000, ⟨0, false, []⟩, _, _, rfl, by omega, HHS2.out, cm_new (by omega) (by omega)⟩
  case round =>
    obtain ⟨k, d, h, X, H, rfl, hk, hs, hc⟩ := hrel
    have HHS0 := Lib.hid hs
    have HCM := Lib.hid hc
    clear hs hc
    by_cases hlt : k < 17
    · have hlt2 : (k : Int) < 17 := by omega
      go_wp2_with fail
      refine (hspan_any k (by omega) wr).mono ?_
      rintro e w3 ⟨rfl, hb3⟩
      have HHS3 := Lib.hid (HHS0.out.below hb3)
      clear hb3
      have hap := happend_any HHS3.out HCM.out.runs HE.out (ex_bnd (by omega) HCM.out) (by rw [HCM.out.segs]; have := lsOf_len k; omega) (by rw [HCM.out.segs]; have h3 := HCM.out.next_eq; rw [first_lsOf, recs_lsOf, List.length_map, List.length_range] at h3; omega) (spanN k) (show 1 ≤ maxLen by decide) (show 1 ≤ maxLen by decide) (show 0 ≤ maxLen by decide)
      obtain ⟨e0, hcm⟩ := ex_app hlt HCM.out
      rw [e0] at hap
      have HAP := Lib.hid hap
      have HC2 := Lib.hid hcm
      clear hap hcm e0
      unfold spV at HAP ⊢
      go_wp2_with fail
      refine HAP.out.mono ?_
      rintro e w4 ⟨rfl, N4, _, hs4, _⟩
      have HS4 := Lib.hid hs4
      clear hs4
      go_wp2_with fail
      go_roundw
      case rel => exact ⟨k + 1, _, _, _, _, by go_num, by omega, HS4.out, HC2.out⟩
      case measure => simp [intOf]; omega
    · obtain rfl : k = 17 := by omega
      have hRD1 := hread_any HHS0.out (HE.out.below HHS0.out.live.below) (ex_bnd (by omega) HCM.out) 15 9 (Nat.le_trans (numbered_small (by rw [HCM.out.segs]; exact HCM.out.file.sgs.chain) (by rw [HCM.out.segs, ex_next]; omega)) (by omega)) (by rw [ex_sure HCM.out]; omega)
      unfold ReadPost at hRD1
      rw [ex_read HCM.out] at hRD1
      have HRD1 := Lib.hid hRD1
      clear hRD1
      go_wp2_with fail
      refine HRD1.out.mono ?_
      rintro e w3 ⟨u1, rfl, hou, hb3⟩
      obtain ⟨x15, hx15⟩ : ∃ x15, x15 = spanN 15 := ⟨_, rfl⟩
      rw [← hx15] at hou
      obtain ⟨ge, ce, rfl, hge, x0, x1, x2, x3, x4, x5, x6, x7⟩ := segEl hou 0 (by simp)
      have hl1 : ([x15] : List Sp.Span).length = 1 := rfl
      rw [hl1]
      simp only [List.getElem_cons_zero, Nat.zero_mul, Nat.zero_add] at x0 x1 x2 x3 x4 x5 x6 x7
      have HHS3 := Lib.hid (HHS0.out.below hb3)
      have HTX := Lib.hid (fun (W : World) (hW : Below w3.heap.size w3 W) => show W.cell? ⟨ge, 0, none⟩ = some (.int .i64 x15.trace) ∧ W.cell? ⟨ge, 1, none⟩ = some (.int .i64 x15.id) ∧ W.cell? ⟨ge, 2, none⟩ = some (.int .i64 x15.parent) ∧ W.cell? ⟨ge, 3, none⟩ = some (.string x15.service) ∧ W.cell? ⟨ge, 4, none⟩ = some (.string x15.host) ∧ W.cell? ⟨ge, 5, none⟩ = some (.int .i64 x15.start) ∧ W.cell? ⟨ge, 6, none⟩ = some (.int .i64 x15.dur) ∧ W.cell? ⟨ge, 7, none⟩ = some (.string x15.note) from
        ⟨(hW.cell (p := ⟨ge, 0, none⟩) hge).trans x0, (hW.cell (p := ⟨ge, 1, none⟩) hge).trans x1, (hW.cell (p := ⟨ge, 2, none⟩) hge).trans x2, (hW.cell (p := ⟨ge, 3, none⟩) hge).trans x3, (hW.cell (p := ⟨ge, 4, none⟩) hge).trans x4, (hW.cell (p := ⟨ge, 5, none⟩) hge).trans x5, (hW.cell (p := ⟨ge, 6, none⟩) hge).trans x6, (hW.cell (p := ⟨ge, 7, none⟩) hge).trans x7⟩)
      clear hb3 hou hge x0 x1 x2 x3 x4 x5 x6 x7 hl1
      have hRD2 := hread_any HHS3.out (HE.out.below HHS3.out.live.below) (ex_bnd (by omega) HCM.out) 17 1 (Nat.le_trans (numbered_small (by rw [HCM.out.segs]; exact HCM.out.file.sgs.chain) (by rw [HCM.out.segs, ex_next]; omega)) (by omega)) (by rw [ex_sure HCM.out]; omega)
      unfold ReadPost at hRD2
      rw [ex_read2 HCM.out] at hRD2
      have HRD2 := Lib.hid hRD2
      have HX15 := Lib.hid hx15
      clear hRD2 hx15
      go_wp2_with fail
      refine HRD2.out.mono ?_
      rintro e w4 ⟨u2, rfl, hou2, hb4⟩
      have HTC := Lib.hid (fun (W : World) (hW : Below w4.heap.size w4 W) => HTX.out W (hb4.trans (hW.mono hb4.size)))
      have HHS := Lib.hid (fun (W : World) (hW : Below w4.heap.size w4 W) => HHS3.out.below (hb4.trans (hW.mono hb4.size)))
      have HSU := Lib.hid (fun (W : World) (hW : Below w4.heap.size w4 W) => hsure_any (HHS.out W hW) (HE.out.below (HHS.out W hW).live.below) (ex_bnd (by omega) HCM.out))
      rw [if_pos HCM.out.runs, ex_sure HCM.out] at HSU
      have HEN := Lib.hid (fun (W : World) (hW : Below w4.heap.size w4 W) => hendn_any (HHS.out W hW) (ex_bnd (by omega) HCM.out).many (by rw [HCM.out.segs, ex_next]; omega))
      rw [if_pos HCM.out.runs, HCM.out.segs, ex_next] at HEN
      have HSPN := Lib.hid (fun W : World => hspan_any 15 (by omega) W)
      have HNE := spanN_eq
      rw [← HX15.out] at HSPN HNE
      unfold spV at HSPN HNE
      clear hou2 hb4
      go_wp2_with fail
      refine wp_region_two (T := fun W => W.cell? ⟨ge, 0, none⟩ = some (.int .i64 x15.trace) ∧ W.cell? ⟨ge, 1, none⟩ = some (.int .i64 x15.id) ∧ W.cell? ⟨ge, 2, none⟩ = some (.int .i64 x15.parent) ∧ W.cell? ⟨ge, 3, none⟩ = some (.string x15.service) ∧ W.cell? ⟨ge, 4, none⟩ = some (.string x15.host) ∧ W.cell? ⟨ge, 5, none⟩ = some (.int .i64 x15.start) ∧ W.cell? ⟨ge, 6, none⟩ = some (.int .i64 x15.dur) ∧ W.cell? ⟨ge, 7, none⟩ = some (.string x15.note)) (S := fun _ => True) (n := 99) (by kernel_rfl) ?_
      obtain ⟨y1, hy1⟩ : ∃ y1, y1 = w4.drew := ⟨_, rfl⟩
      rw [← hy1]
      have hby : Below w4.heap.size w4 y1 := by rw [hy1]; exact (Below.refl _ _).drew
      have HBy1 := Lib.hid hby
      have hS : True := trivial
      have hT := HTC.out y1 HBy1.out
      clear hy1 hby
      refine two_takeT 0 (some 56) (v := ?_) rfl rfl (by kernel_rfl) (by kernel_rfl) (by kernel_rfl) (by decide) (fun _ _ _ h => h) (Or.inl ⟨by rfl, ?hy0⟩) hT hS ?_
      case hy0 => (intro w' hT'; (try unfold T8 at hT'); (try unfold T9 at hT'); (try unfold S8 at hT'); go_simp; (try with_reducible rfl))
      try simp only [Act.put, List.setIfInBounds_toArray, List.set_cons_zero, List.set_cons_succ]
      refine two_two 1 2 rfl rfl (by kernel_rfl) ?_ ?_
      · skip
        intro K hK
        go_simp
        refine ((HHS.out y1 HBy1.out).live.names).mono ?_
        rintro e y2 ⟨u, rfl, hu, hbz⟩
        rw [ex_names HCM.out, ex_lit] at hu
        obtain ⟨nx, nc, hnx, _⟩ := OwnS.each hu
        subst hnx
        have HBy2 := Lib.hid ((HBy1.out).trans (hbz.mono (HBy1.out).size))
        have HNy2 := Lib.hid hu.rd
        have HBZ := Lib.hid hbz
        have hT1 := HTC.out y2 HBy2.out
        refine hK.out _ _ hT1 (fun _ _ => hS) ?_
        clear hK K hT hbz hu
        have hT := hT1
        clear hT1
        try simp only [Act.put, List.setIfInBounds_toArray, List.set_cons_zero, List.set_cons_succ]
        refine two_one 2 rfl (by kernel_rfl) ?_
        intro K hK
        go_simp
        obtain ⟨y3, hz⟩ : ∃ z, z = y2.alloc (.cells (([⟨#[108, 48]⟩, ⟨#[108, 49, 54]⟩] : List ByteArray).map Value.string).toArray 9 (0, 0)) := ⟨_, rfl⟩
        have hbz : Below y2.heap.size y2 y3 := by rw [hz]; exact (Below.refl _ _).alloc (Nat.le_refl _) _
        have hrl : RdS y3 (.slice (some ⟨y2.heap.size, 0, none⟩) 2 2) [⟨#[108, 48]⟩, ⟨#[108, 49, 54]⟩] := by rw [hz]; exact rdS_new y2 _
        simp only [List.map_cons, List.map_nil] at hz
        rw [← hz]
        have HBy3 := Lib.hid ((HBy2.out).trans (hbz.mono (HBy2.out).size))
        have HBL := Lib.hid hbz
        have HLy3 := Lib.hid hrl
        have hT1 := HTC.out y3 HBy3.out
        refine hK.out _ _ hT1 (fun _ _ => hS) ?_
        clear hK K hT hbz hrl hz
        have hT := hT1
        clear hT1
        try simp only [Act.put, List.setIfInBounds_toArray, List.set_cons_zero, List.set_cons_succ]
        have HNN := Lib.hid (HNy2.out.below HBL.out)
        have HLL := HLy3
        refine two_one 3 rfl (by kernel_rfl) ?_
        intro K hK
        go_simp
        refine (sameTexts_eq HNN.out HLL.out (by decide)).mono ?_
        rintro e y4 ⟨rfl, hbz⟩
        have HBy4 := Lib.hid ((HBy3.out).trans (hbz.mono (HBy3.out).size))
        have hT1 := HTC.out y4 HBy4.out
        refine hK.out _ _ hT1 (fun _ _ => hS) ?_
        clear hK K hT hbz
        have hT := hT1
        clear hT1
        try simp only [Act.put, List.setIfInBounds_toArray, List.set_cons_zero, List.set_cons_succ]
        refine two_takeT 4 (some 60) (v := ?_) rfl rfl (by kernel_rfl) (by kernel_rfl) (by kernel_rfl) (by decide) (fun _ _ _ h => h) (Or.inl ⟨by rfl, ?hy4⟩) hT hS ?_
        case hy4 => (intro w' hT'; (try unfold T8 at hT'); (try unfold T9 at hT'); (try unfold S8 at hT'); go_simp; (try with_reducible rfl))
        try simp only [Act.put, List.setIfInBounds_toArray, List.set_cons_zero, List.set_cons_succ]
        refine two_takeT 5 (some 61) (v := ?_) rfl rfl (by kernel_rfl) (by kernel_rfl) (by kernel_rfl) (by decide) (fun _ _ _ h => h) (Or.inl ⟨by rfl, ?hy5⟩) hT hS ?_
        case hy5 => (intro w' hT'; (try unfold T8 at hT'); (try unfold T9 at hT'); (try unfold S8 at hT'); go_simp; (try with_reducible rfl))
        try simp only [Act.put, List.setIfInBounds_toArray, List.set_cons_zero, List.set_cons_succ]
        refine two_takeT 6 (some 62) (v := ?_) rfl rfl (by kernel_rfl) (by kernel_rfl) (by kernel_rfl) (by decide) (fun _ _ _ h => h) (Or.inl ⟨by rfl, ?hy6⟩) hT hS ?_
        case hy6 => (intro w' hT'; (try unfold T8 at hT'); (try unfold T9 at hT'); (try unfold S8 at hT'); go_simp; (try with_reducible rfl))
        try simp only [Act.put, List.setIfInBounds_toArray, List.set_cons_zero, List.set_cons_succ]
        refine two_one 7 rfl (by kernel_rfl) ?_
        intro K hK
        go_simp
        refine (HSU.out y4 HBy4.out).mono ?_
        rintro e y5 ⟨rfl, hbz⟩
        have HBy5 := Lib.hid ((HBy4.out).trans (hbz.mono (HBy4.out).size))
        have hT1 := HTC.out y5 HBy5.out
        refine hK.out _ _ hT1 (fun _ _ => hS) ?_
        clear hK K hT hbz
        have hT := hT1
        clear hT1
        try simp only [Act.put, List.setIfInBounds_toArray, List.set_cons_zero, List.set_cons_succ]
        refine two_takeT 8 (some 64) (v := ?_) rfl rfl (by kernel_rfl) (by kernel_rfl) (by kernel_rfl) (by decide) (fun _ _ _ h => h) (Or.inl ⟨by rfl, ?hy8⟩) hT hS ?_
        case hy8 => (intro w' hT'; (try unfold T8 at hT'); (try unfold T9 at hT'); (try unfold S8 at hT'); go_simp; (try with_reducible rfl))
        try simp only [Act.put, List.setIfInBounds_toArray, List.set_cons_zero, List.set_cons_succ]
        refine two_takeT 9 (some 65) (v := ?_) rfl rfl (by kernel_rfl) (by kernel_rfl) (by kernel_rfl) (by decide) (fun _ _ _ h => h) (Or.inl ⟨by rfl, ?hy9⟩) hT hS ?_
        case hy9 => (intro w' hT'; (try unfold T8 at hT'); (try unfold T9 at hT'); (try unfold S8 at hT'); go_simp; (try with_reducible rfl))
        try simp only [Act.put, List.setIfInBounds_toArray, List.set_cons_zero, List.set_cons_succ]
        refine two_takeT 10 (some 66) (v := ?_) rfl rfl (by kernel_rfl) (by kernel_rfl) (by kernel_rfl) (by decide) (fun _ _ _ h => h) (Or.inl ⟨by rfl, ?hy10⟩) hT hS ?_
        case hy10 => (intro w' hT'; (try unfold T8 at hT'); (try unfold T9 at hT'); (try unfold S8 at hT'); go_simp; (try with_reducible rfl))
        try simp only [Act.put, List.setIfInBounds_toArray, List.set_cons_zero, List.set_cons_succ]
        refine two_takeT 11 (some 67) (v := ?_) rfl rfl (by kernel_rfl) (by kernel_rfl) (by kernel_rfl) (by decide) (fun _ _ _ h => h) (Or.inl ⟨by rfl, ?hy11⟩) hT hS ?_
        case hy11 => (intro w' hT'; (try unfold T8 at hT'); (try unfold T9 at hT'); (try unfold S8 at hT'); go_simp; (try with_reducible rfl))
        try simp only [Act.put, List.setIfInBounds_toArray, List.set_cons_zero, List.set_cons_succ]
        refine two_one 12 rfl (by kernel_rfl) ?_
        intro K hK
        go_simp
        refine (HEN.out y5 HBy5.out).mono ?_
        rintro e y6 ⟨rfl, hbz⟩
        have HBy6 := Lib.hid ((HBy5.out).trans (hbz.mono (HBy5.out).size))
        have hT1 := HTC.out y6 HBy6.out
        refine hK.out _ _ hT1 (fun _ _ => hS) ?_
        clear hK K hT hbz
        have hT := hT1
        clear hT1
        try simp only [Act.put, List.setIfInBounds_toArray, List.set_cons_zero, List.set_cons_succ]
        refine two_takeT 13 (some 69) (v := ?_) rfl rfl (by kernel_rfl) (by kernel_rfl) (by kernel_rfl) (by decide) (fun _ _ _ h => h) (Or.inl ⟨by rfl, ?hy13⟩) hT hS ?_
        case hy13 => (intro w' hT'; (try unfold T8 at hT'); (try unfold T9 at hT'); (try unfold S8 at hT'); go_simp; (try with_reducible rfl))
        try simp only [Act.put, List.setIfInBounds_toArray, List.set_cons_zero, List.set_cons_succ]
        refine two_takeT 14 (some 70) (v := ?_) rfl rfl (by kernel_rfl) (by kernel_rfl) (by kernel_rfl) (by decide) (fun _ _ _ h => h) (Or.inl ⟨by rfl, ?hy14⟩) hT hS ?_
        case hy14 => (intro w' hT'; (try unfold T8 at hT'); (try unfold T9 at hT'); (try unfold S8 at hT'); go_simp; (try with_reducible rfl))
        try simp only [Act.put, List.setIfInBounds_toArray, List.set_cons_zero, List.set_cons_succ]
        refine two_takeT 15 (some 71) (v := ?_) rfl rfl (by kernel_rfl) (by kernel_rfl) (by kernel_rfl) (by decide) (fun _ _ _ h => h) (Or.inl ⟨by rfl, ?hy15⟩) hT hS ?_
        case hy15 => (intro w' hT'; (try unfold T8 at hT'); (try unfold T9 at hT'); (try unfold S8 at hT'); go_simp; (try with_reducible rfl))
        try simp only [Act.put, List.setIfInBounds_toArray, List.set_cons_zero, List.set_cons_succ]
        refine two_takeT 16 (some 72) (v := ?_) rfl rfl (by kernel_rfl) (by kernel_rfl) (by kernel_rfl) (by decide) (fun _ _ _ h => h) (Or.inl ⟨by rfl, ?hy16⟩) hT hS ?_
        case hy16 => (intro w' hT'; (try unfold T8 at hT'); (try unfold T9 at hT'); (try unfold S8 at hT'); go_simp; (try with_reducible rfl))
        try simp only [Act.put, List.setIfInBounds_toArray, List.set_cons_zero, List.set_cons_succ]
        refine two_takeT 17 (some 73) (v := ?_) rfl rfl (by kernel_rfl) (by kernel_rfl) (by kernel_rfl) (by decide) (fun _ _ _ h => h) (Or.inl ⟨by rfl, ?hy17⟩) hT hS ?_
        case hy17 => (intro w' hT'; (try unfold T8 at hT'); (try unfold T9 at hT'); (try unfold S8 at hT'); go_simp; (try with_reducible rfl))
        try simp only [Act.put, List.setIfInBounds_toArray, List.set_cons_zero, List.set_cons_succ]
        refine two_takeT 18 (some 74) (v := ?_) rfl rfl (by kernel_rfl) (by kernel_rfl) (by kernel_rfl) (by decide) (fun _ _ _ h => h) (Or.inl ⟨by rfl, ?hy18⟩) hT hS ?_
        case hy18 => (intro w' hT'; (try unfold T8 at hT'); (try unfold T9 at hT'); (try unfold S8 at hT'); go_simp; (try with_reducible rfl))
        try simp only [Act.put, List.setIfInBounds_toArray, List.set_cons_zero, List.set_cons_succ]
        refine two_takeT 19 (some 75) (v := ?_) rfl rfl (by kernel_rfl) (by kernel_rfl) (by kernel_rfl) (by decide) (fun _ _ _ h => h) (Or.inl ⟨by rfl, ?hy19⟩) hT hS ?_
        case hy19 => (intro w' hT'; (try unfold T8 at hT'); (try unfold T9 at hT'); (try unfold S8 at hT'); go_simp; (try with_reducible rfl))
        try simp only [Act.put, List.setIfInBounds_toArray, List.set_cons_zero, List.set_cons_succ]
        refine two_takeT 20 (some 76) (v := ?_) rfl rfl (by kernel_rfl) (by kernel_rfl) (by kernel_rfl) (by decide) (fun _ _ _ h => h) (Or.inl ⟨by rfl, ?hy20⟩) hT hS ?_
        case hy20 => (intro w' hT'; (try unfold T8 at hT'); (try unfold T9 at hT'); (try unfold S8 at hT'); go_simp; (try with_reducible rfl))
        try simp only [Act.put, List.setIfInBounds_toArray, List.set_cons_zero, List.set_cons_succ]
        refine two_takeT 21 (some 77) (v := ?_) rfl rfl (by kernel_rfl) (by kernel_rfl) (by kernel_rfl) (by decide) (fun _ _ _ h => h) (Or.inl ⟨by rfl, ?hy21⟩) hT hS ?_
        case hy21 => (intro w' hT'; (try unfold T8 at hT'); (try unfold T9 at hT'); (try unfold S8 at hT'); go_simp; (try with_reducible rfl))
        try simp only [Act.put, List.setIfInBounds_toArray, List.set_cons_zero, List.set_cons_succ]
        refine two_takeT 22 (some 78) (v := ?_) rfl rfl (by kernel_rfl) (by kernel_rfl) (by kernel_rfl) (by decide) (fun _ _ _ h => h) (Or.inl ⟨by rfl, ?hy22⟩) hT hS ?_
        case hy22 => (intro w' hT'; (try unfold T8 at hT'); (try unfold T9 at hT'); (try unfold S8 at hT'); go_simp; (try with_reducible rfl))
        try simp only [Act.put, List.setIfInBounds_toArray, List.set_cons_zero, List.set_cons_succ]
        refine two_takeT 23 (some 79) (v := ?_) rfl rfl (by kernel_rfl) (by kernel_rfl) (by kernel_rfl) (by decide) (fun _ _ _ h => h) (Or.inl ⟨by rfl, ?hy23⟩) hT hS ?_
        case hy23 => (intro w' hT'; (try unfold T8 at hT'); (try unfold T9 at hT'); (try unfold S8 at hT'); go_simp; (try with_reducible rfl))
        try simp only [Act.put, List.setIfInBounds_toArray, List.set_cons_zero, List.set_cons_succ]
        refine two_takeT 24 (some 80) (v := ?_) rfl rfl (by kernel_rfl) (by kernel_rfl) (by kernel_rfl) (by decide) (fun _ _ _ h => h) (Or.inl ⟨by rfl, ?hy24⟩) hT hS ?_
        case hy24 => (intro w' hT'; (try unfold T8 at hT'); (try unfold T9 at hT'); (try unfold S8 at hT'); go_simp; (try with_reducible rfl))
        try simp only [Act.put, List.setIfInBounds_toArray, List.set_cons_zero, List.set_cons_succ]
        refine two_takeT 25 (some 81) (v := ?_) rfl rfl (by kernel_rfl) (by kernel_rfl) (by kernel_rfl) (by decide) (fun _ _ _ h => h) (Or.inl ⟨by rfl, ?hy25⟩) hT hS ?_
        case hy25 => (intro w' hT'; (try unfold T8 at hT'); (try unfold T9 at hT'); (try unfold S8 at hT'); go_simp; (try with_reducible rfl))
        try simp only [Act.put, List.setIfInBounds_toArray, List.set_cons_zero, List.set_cons_succ]
        refine two_takeT 26 (some 82) (v := ?_) rfl rfl (by kernel_rfl) (by kernel_rfl) (by kernel_rfl) (by decide) (fun _ _ _ h => h) (Or.inl ⟨by rfl, ?hy26⟩) hT hS ?_
        case hy26 => (intro w' hT'; (try unfold T8 at hT'); (try unfold T9 at hT'); (try unfold S8 at hT'); go_simp; (try with_reducible rfl))
        try simp only [Act.put, List.setIfInBounds_toArray, List.set_cons_zero, List.set_cons_succ]
        refine two_takeT 27 (some 83) (v := ?_) rfl rfl (by kernel_rfl) (by kernel_rfl) (by kernel_rfl) (by decide) (fun _ _ _ h => h) (Or.inl ⟨by rfl, ?hy27⟩) hT hS ?_
        case hy27 => (intro w' hT'; (try unfold T8 at hT'); (try unfold T9 at hT'); (try unfold S8 at hT'); go_simp; (try with_reducible rfl))
        try simp only [Act.put, List.setIfInBounds_toArray, List.set_cons_zero, List.set_cons_succ]
        refine two_one 28 rfl (by kernel_rfl) ?_
        intro K hK
        go_simp
        refine (HSPN.out y6).mono ?_
        rintro e y7 ⟨rfl, hbz⟩
        have HBy7 := Lib.hid ((HBy6.out).trans (hbz.mono (HBy6.out).size))
        have hT1 := HTC.out y7 HBy7.out
        refine hK.out _ _ hT1 (fun _ _ => hS) ?_
        clear hK K hT hbz
        have hT := hT1
        clear hT1
        try simp only [Act.put, List.setIfInBounds_toArray, List.set_cons_zero, List.set_cons_succ]
        refine two_takeT 29 (some 85) (v := ?_) rfl rfl (by kernel_rfl) (by kernel_rfl) (by kernel_rfl) (by decide) (fun _ _ _ h => h) (Or.inl ⟨by rfl, ?hy29⟩) hT hS ?_
        case hy29 => (intro w' hT'; (try unfold T8 at hT'); (try unfold T9 at hT'); (try unfold S8 at hT'); go_simp; (try with_reducible rfl))
        try simp only [Act.put, List.setIfInBounds_toArray, List.set_cons_zero, List.set_cons_succ]
        refine two_takeT 30 (some 86) (v := ?_) rfl rfl (by kernel_rfl) (by kernel_rfl) (by kernel_rfl) (by decide) (fun _ _ _ h => h) (Or.inl ⟨by rfl, ?hy30⟩) hT hS ?_
        case hy30 => (intro w' hT'; (try unfold T8 at hT'); (try unfold T9 at hT'); (try unfold S8 at hT'); go_simp; (try with_reducible rfl))
        try simp only [Act.put, List.setIfInBounds_toArray, List.set_cons_zero, List.set_cons_succ]
        refine two_takeT 31 (some 87) (v := ?_) rfl rfl (by kernel_rfl) (by kernel_rfl) (by kernel_rfl) (by decide) (fun _ _ _ h => h) (Or.inl ⟨by rfl, ?hy31⟩) hT hS ?_
        case hy31 => (intro w' hT'; (try unfold T8 at hT'); (try unfold T9 at hT'); (try unfold S8 at hT'); go_simp; (try with_reducible rfl))
        try simp only [Act.put, List.setIfInBounds_toArray, List.set_cons_zero, List.set_cons_succ]
        refine two_takeT 32 (some 88) (v := ?_) rfl rfl (by kernel_rfl) (by kernel_rfl) (by kernel_rfl) (by decide) (fun _ _ _ h => h) (Or.inl ⟨by rfl, ?hy32⟩) hT hS ?_
        case hy32 => (intro w' hT'; (try unfold T8 at hT'); (try unfold T9 at hT'); (try unfold S8 at hT'); go_simp; (try with_reducible rfl))
        try simp only [Act.put, List.setIfInBounds_toArray, List.set_cons_zero, List.set_cons_succ]
        refine two_takeT 33 (some 89) (v := ?_) rfl rfl (by kernel_rfl) (by kernel_rfl) (by kernel_rfl) (by decide) (fun _ _ _ h => h) (Or.inl ⟨by rfl, ?hy33⟩) hT hS ?_
        case hy33 => (intro w' hT'; (try unfold T8 at hT'); (try unfold T9 at hT'); (try unfold S8 at hT'); go_simp; (try with_reducible rfl))
        try simp only [Act.put, List.setIfInBounds_toArray, List.set_cons_zero, List.set_cons_succ]
        refine two_takeT 34 (some 90) (v := ?_) rfl rfl (by kernel_rfl) (by kernel_rfl) (by kernel_rfl) (by decide) (fun _ _ _ h => h) (Or.inl ⟨by rfl, ?hy34⟩) hT hS ?_
        case hy34 => (intro w' hT'; (try unfold T8 at hT'); (try unfold T9 at hT'); (try unfold S8 at hT'); go_simp; (try with_reducible rfl))
        try simp only [Act.put, List.setIfInBounds_toArray, List.set_cons_zero, List.set_cons_succ]
        refine two_takeT 35 (some 91) (v := ?_) rfl rfl (by kernel_rfl) (by kernel_rfl) (by kernel_rfl) (by decide) (fun _ _ _ h => h) (Or.inl ⟨by rfl, ?hy35⟩) hT hS ?_
        case hy35 => (intro w' hT'; (try unfold T8 at hT'); (try unfold T9 at hT'); (try unfold S8 at hT'); go_simp; (try with_reducible rfl))
        try simp only [Act.put, List.setIfInBounds_toArray, List.set_cons_zero, List.set_cons_succ]
        refine two_takeT 36 (some 92) (v := ?_) rfl rfl (by kernel_rfl) (by kernel_rfl) (by kernel_rfl) (by decide) (fun _ _ _ h => h) (Or.inl ⟨by rfl, ?hy36⟩) hT hS ?_
        case hy36 => (intro w' hT'; (try unfold T8 at hT'); (try unfold T9 at hT'); (try unfold S8 at hT'); go_simp; (try with_reducible rfl))
        try simp only [Act.put, List.setIfInBounds_toArray, List.set_cons_zero, List.set_cons_succ]
        refine two_takeT 37 (some 93) (v := ?_) rfl rfl (by kernel_rfl) (by kernel_rfl) (by kernel_rfl) (by decide) (fun _ _ _ h => h) (Or.inl ⟨by rfl, ?hy37⟩) hT hS ?_
        case hy37 => (intro w' hT'; (try unfold T8 at hT'); (try unfold T9 at hT'); (try unfold S8 at hT'); go_simp; (try with_reducible rfl))
        try simp only [Act.put, List.setIfInBounds_toArray, List.set_cons_zero, List.set_cons_succ]
        refine two_takeT 38 (some 94) (v := ?_) rfl rfl (by kernel_rfl) (by kernel_rfl) (by kernel_rfl) (by decide) (fun _ _ _ h => h) (Or.inl ⟨by rfl, ?hy38⟩) hT hS ?_
        case hy38 => (intro w' hT'; (try unfold T8 at hT'); (try unfold T9 at hT'); (try unfold S8 at hT'); go_simp; (try with_reducible rfl))
        try simp only [Act.put, List.setIfInBounds_toArray, List.set_cons_zero, List.set_cons_succ]
        refine two_done (by kernel_rfl) ?_ _
        clear hT hS
        have hs0 := HHS.out y7 HBy7.out
        obtain ⟨e1, cm1⟩ := HCM.out.sync
        have hsy := hsync_any hs0 HCM.out.runs HE.out (ex_bnd (by omega) HCM.out)
        rw [e1] at hsy
        have HSY := Lib.hid hsy
        have HC1 := Lib.hid cm1
        clear hs0 e1 cm1 hsy
        go_wp2_with fail
        refine HSY.out.mono ?_
        rintro e z1 ⟨rfl, hs1, _⟩
        obtain ⟨e2, s2, cm2⟩ := ex_rot HC1.out
        have hro := hrotate_any hs1 HC1.out.runs HE.out (ex_bnd (by omega) HC1.out) (by rw [HC1.out.segs, ex_next]; omega)
        rw [e2] at hro
        have HRO := Lib.hid hro
        have HC2 := Lib.hid cm2
        clear hs1 e2 cm2 hro
        go_wp2_with fail
        refine HRO.out.mono ?_
        rintro e z2 ⟨rfl, N2, _, hs2, _⟩
        have hbd2 := HC2.out.bnd (by rw [lsOf_17]; decide) (by rw [nextOf_snoc]; decide)
        have hr2 := hrotate_any hs2 HC2.out.runs HE.out hbd2 (by rw [HC2.out.segs, nextOf_snoc]; decide)
        rw [ex_rot2 HC2.out] at hr2
        have HR2 := Lib.hid hr2
        have HBD2 := Lib.hid hbd2
        clear hs2 hr2 hbd2
        go_wp2_with fail
        refine HR2.out.mono ?_
        rintro e z3 ⟨rfl, N3, _, hs3, _⟩
        have hrt := hretain_any hs3 HC2.out.runs HE.out HBD2.out 2
        obtain ⟨e4, s4, cm4⟩ := ex_ret HC2.out
        rw [e4] at hrt
        have HRT := Lib.hid hrt
        have HC4 := Lib.hid cm4
        clear hs3 hrt e4 cm4
        go_wp2_with fail
        refine HRT.out.mono ?_
        rintro e z4 ⟨rfl, N4, _, hs4, _⟩
        have hnm := hs4.live.names
        rw [ex_names2 HC4.out, ex_lit2] at hnm
        have HNM := Lib.hid hnm
        have HH4 := Lib.hid hs4
        clear hnm hs4
        go_wp2_with fail
        refine HNM.out.mono ?_
        rintro e z5 ⟨u5, rfl, hu5, hb5⟩
        obtain ⟨nx5, nc5, hnx5, _⟩ := OwnS.each hu5
        subst hnx5
        have hl5 : ([⟨#[108, 49, 54]⟩, ⟨#[108, 49, 55]⟩] : List ByteArray).length = 2 := rfl
        rw [hl5] at hu5 ⊢
        have hst := sameTexts_lit [⟨#[108, 49, 54]⟩, ⟨#[108, 49, 55]⟩] hl5 (by decide) hu5.rd
        simp only [List.map_cons, List.map_nil] at hst
        have HST := Lib.hid hst
        have HH5 := Lib.hid (HH4.out.below hb5)
        clear hu5 hb5 hl5 hst
        go_wp2_with fail
        refine HST.out.mono ?_
        rintro e z6 ⟨rfl, hb6⟩
        have hs6 := HH5.out.below hb6
        have hfi := hfirst_any hs6 (HC4.out.bnd (by decide) (by decide)).many
        rw [if_pos HC4.out.runs, HC4.out.segs] at hfi
        have hf16 : firstOf [⟨16, [spanN 16]⟩, ⟨17, []⟩] = 16 := rfl
        rw [hf16] at hfi
        have HFI := Lib.hid hfi
        have HH6 := Lib.hid hs6
        clear hb6 hs6 hfi hf16
        go_wp2_with fail
        refine HFI.out.mono ?_
        rintro e z7 ⟨rfl, hb7⟩
        have HBF := Lib.hid (HH6.out.below hb7).live.below
        clear hb7
        go_wp2_with fail
        go_ret
        exact ⟨rfl, HBF.out⟩
      · skip
        intro K hK
        go_simp
        obtain ⟨y2, hz⟩ : ∃ z, z = y1.alloc (.cells (([⟨#[108, 48]⟩, ⟨#[108, 49, 54]⟩] : List ByteArray).map Value.string).toArray 9 (0, 0)) := ⟨_, rfl⟩
        have hbz : Below y1.heap.size y1 y2 := by rw [hz]; exact (Below.refl _ _).alloc (Nat.le_refl _) _
        have hrl : RdS y2 (.slice (some ⟨y1.heap.size, 0, none⟩) 2 2) [⟨#[108, 48]⟩, ⟨#[108, 49, 54]⟩] := by rw [hz]; exact rdS_new y1 _
        simp only [List.map_cons, List.map_nil] at hz
        rw [← hz]
        have HBy2 := Lib.hid ((HBy1.out).trans (hbz.mono (HBy1.out).size))
        have HBL := Lib.hid hbz
        have HLy2 := Lib.hid hrl
        have hT1 := HTC.out y2 HBy2.out
        refine hK.out _ _ hT1 (fun _ _ => hS) ?_
        clear hK K hT hbz hrl hz
        have hT := hT1
        clear hT1
        try simp only [Act.put, List.setIfInBounds_toArray, List.set_cons_zero, List.set_cons_succ]
        refine two_one 1 rfl (by kernel_rfl) ?_
        intro K hK
        go_simp
        refine ((HHS.out y2 HBy2.out).live.names).mono ?_
        rintro e y3 ⟨u, rfl, hu, hbz⟩
        rw [ex_names HCM.out, ex_lit] at hu
        obtain ⟨nx, nc, hnx, _⟩ := OwnS.each hu
        subst hnx
        have HBy3 := Lib.hid ((HBy2.out).trans (hbz.mono (HBy2.out).size))
        have HNy3 := Lib.hid hu.rd
        have HBZ := Lib.hid hbz
        have hT1 := HTC.out y3 HBy3.out
        refine hK.out _ _ hT1 (fun _ _ => hS) ?_
        clear hK K hT hbz hu
        have hT := hT1
        clear hT1
        try simp only [Act.put, List.setIfInBounds_toArray, List.set_cons_zero, List.set_cons_succ]
        have HNN := HNy3
        have HLL := Lib.hid (HLy2.out.below HBZ.out)
        refine two_one 3 rfl (by kernel_rfl) ?_
        intro K hK
        go_simp
        refine (sameTexts_eq HNN.out HLL.out (by decide)).mono ?_
        rintro e y4 ⟨rfl, hbz⟩
        have HBy4 := Lib.hid ((HBy3.out).trans (hbz.mono (HBy3.out).size))
        have hT1 := HTC.out y4 HBy4.out
        refine hK.out _ _ hT1 (fun _ _ => hS) ?_
        clear hK K hT hbz
        have hT := hT1
        clear hT1
        try simp only [Act.put, List.setIfInBounds_toArray, List.set_cons_zero, List.set_cons_succ]
        refine two_takeT 4 (some 60) (v := ?_) rfl rfl (by kernel_rfl) (by kernel_rfl) (by kernel_rfl) (by decide) (fun _ _ _ h => h) (Or.inl ⟨by rfl, ?hy4⟩) hT hS ?_
        case hy4 => (intro w' hT'; (try unfold T8 at hT'); (try unfold T9 at hT'); (try unfold S8 at hT'); go_simp; (try with_reducible rfl))
        try simp only [Act.put, List.setIfInBounds_toArray, List.set_cons_zero, List.set_cons_succ]
        refine two_takeT 5 (some 61) (v := ?_) rfl rfl (by kernel_rfl) (by kernel_rfl) (by kernel_rfl) (by decide) (fun _ _ _ h => h) (Or.inl ⟨by rfl, ?hy5⟩) hT hS ?_
        case hy5 => (intro w' hT'; (try unfold T8 at hT'); (try unfold T9 at hT'); (try unfold S8 at hT'); go_simp; (try with_reducible rfl))
        try simp only [Act.put, List.setIfInBounds_toArray, List.set_cons_zero, List.set_cons_succ]
        refine two_takeT 6 (some 62) (v := ?_) rfl rfl (by kernel_rfl) (by kernel_rfl) (by kernel_rfl) (by decide) (fun _ _ _ h => h) (Or.inl ⟨by rfl, ?hy6⟩) hT hS ?_
        case hy6 => (intro w' hT'; (try unfold T8 at hT'); (try unfold T9 at hT'); (try unfold S8 at hT'); go_simp; (try with_reducible rfl))
        try simp only [Act.put, List.setIfInBounds_toArray, List.set_cons_zero, List.set_cons_succ]
        refine two_one 7 rfl (by kernel_rfl) ?_
        intro K hK
        go_simp
        refine (HSU.out y4 HBy4.out).mono ?_
        rintro e y5 ⟨rfl, hbz⟩
        have HBy5 := Lib.hid ((HBy4.out).trans (hbz.mono (HBy4.out).size))
        have hT1 := HTC.out y5 HBy5.out
        refine hK.out _ _ hT1 (fun _ _ => hS) ?_
        clear hK K hT hbz
        have hT := hT1
        clear hT1
        try simp only [Act.put, List.setIfInBounds_toArray, List.set_cons_zero, List.set_cons_succ]
        refine two_takeT 8 (some 64) (v := ?_) rfl rfl (by kernel_rfl) (by kernel_rfl) (by kernel_rfl) (by decide) (fun _ _ _ h => h) (Or.inl ⟨by rfl, ?hy8⟩) hT hS ?_
        case hy8 => (intro w' hT'; (try unfold T8 at hT'); (try unfold T9 at hT'); (try unfold S8 at hT'); go_simp; (try with_reducible rfl))
        try simp only [Act.put, List.setIfInBounds_toArray, List.set_cons_zero, List.set_cons_succ]
        refine two_takeT 9 (some 65) (v := ?_) rfl rfl (by kernel_rfl) (by kernel_rfl) (by kernel_rfl) (by decide) (fun _ _ _ h => h) (Or.inl ⟨by rfl, ?hy9⟩) hT hS ?_
        case hy9 => (intro w' hT'; (try unfold T8 at hT'); (try unfold T9 at hT'); (try unfold S8 at hT'); go_simp; (try with_reducible rfl))
        try simp only [Act.put, List.setIfInBounds_toArray, List.set_cons_zero, List.set_cons_succ]
        refine two_takeT 10 (some 66) (v := ?_) rfl rfl (by kernel_rfl) (by kernel_rfl) (by kernel_rfl) (by decide) (fun _ _ _ h => h) (Or.inl ⟨by rfl, ?hy10⟩) hT hS ?_
        case hy10 => (intro w' hT'; (try unfold T8 at hT'); (try unfold T9 at hT'); (try unfold S8 at hT'); go_simp; (try with_reducible rfl))
        try simp only [Act.put, List.setIfInBounds_toArray, List.set_cons_zero, List.set_cons_succ]
        refine two_takeT 11 (some 67) (v := ?_) rfl rfl (by kernel_rfl) (by kernel_rfl) (by kernel_rfl) (by decide) (fun _ _ _ h => h) (Or.inl ⟨by rfl, ?hy11⟩) hT hS ?_
        case hy11 => (intro w' hT'; (try unfold T8 at hT'); (try unfold T9 at hT'); (try unfold S8 at hT'); go_simp; (try with_reducible rfl))
        try simp only [Act.put, List.setIfInBounds_toArray, List.set_cons_zero, List.set_cons_succ]
        refine two_one 12 rfl (by kernel_rfl) ?_
        intro K hK
        go_simp
        refine (HEN.out y5 HBy5.out).mono ?_
        rintro e y6 ⟨rfl, hbz⟩
        have HBy6 := Lib.hid ((HBy5.out).trans (hbz.mono (HBy5.out).size))
        have hT1 := HTC.out y6 HBy6.out
        refine hK.out _ _ hT1 (fun _ _ => hS) ?_
        clear hK K hT hbz
        have hT := hT1
        clear hT1
        try simp only [Act.put, List.setIfInBounds_toArray, List.set_cons_zero, List.set_cons_succ]
        refine two_takeT 13 (some 69) (v := ?_) rfl rfl (by kernel_rfl) (by kernel_rfl) (by kernel_rfl) (by decide) (fun _ _ _ h => h) (Or.inl ⟨by rfl, ?hy13⟩) hT hS ?_
        case hy13 => (intro w' hT'; (try unfold T8 at hT'); (try unfold T9 at hT'); (try unfold S8 at hT'); go_simp; (try with_reducible rfl))
        try simp only [Act.put, List.setIfInBounds_toArray, List.set_cons_zero, List.set_cons_succ]
        refine two_takeT 14 (some 70) (v := ?_) rfl rfl (by kernel_rfl) (by kernel_rfl) (by kernel_rfl) (by decide) (fun _ _ _ h => h) (Or.inl ⟨by rfl, ?hy14⟩) hT hS ?_
        case hy14 => (intro w' hT'; (try unfold T8 at hT'); (try unfold T9 at hT'); (try unfold S8 at hT'); go_simp; (try with_reducible rfl))
        try simp only [Act.put, List.setIfInBounds_toArray, List.set_cons_zero, List.set_cons_succ]
        refine two_takeT 15 (some 71) (v := ?_) rfl rfl (by kernel_rfl) (by kernel_rfl) (by kernel_rfl) (by decide) (fun _ _ _ h => h) (Or.inl ⟨by rfl, ?hy15⟩) hT hS ?_
        case hy15 => (intro w' hT'; (try unfold T8 at hT'); (try unfold T9 at hT'); (try unfold S8 at hT'); go_simp; (try with_reducible rfl))
        try simp only [Act.put, List.setIfInBounds_toArray, List.set_cons_zero, List.set_cons_succ]
        refine two_takeT 16 (some 72) (v := ?_) rfl rfl (by kernel_rfl) (by kernel_rfl) (by kernel_rfl) (by decide) (fun _ _ _ h => h) (Or.inl ⟨by rfl, ?hy16⟩) hT hS ?_
        case hy16 => (intro w' hT'; (try unfold T8 at hT'); (try unfold T9 at hT'); (try unfold S8 at hT'); go_simp; (try with_reducible rfl))
        try simp only [Act.put, List.setIfInBounds_toArray, List.set_cons_zero, List.set_cons_succ]
        refine two_takeT 17 (some 73) (v := ?_) rfl rfl (by kernel_rfl) (by kernel_rfl) (by kernel_rfl) (by decide) (fun _ _ _ h => h) (Or.inl ⟨by rfl, ?hy17⟩) hT hS ?_
        case hy17 => (intro w' hT'; (try unfold T8 at hT'); (try unfold T9 at hT'); (try unfold S8 at hT'); go_simp; (try with_reducible rfl))
        try simp only [Act.put, List.setIfInBounds_toArray, List.set_cons_zero, List.set_cons_succ]
        refine two_takeT 18 (some 74) (v := ?_) rfl rfl (by kernel_rfl) (by kernel_rfl) (by kernel_rfl) (by decide) (fun _ _ _ h => h) (Or.inl ⟨by rfl, ?hy18⟩) hT hS ?_
        case hy18 => (intro w' hT'; (try unfold T8 at hT'); (try unfold T9 at hT'); (try unfold S8 at hT'); go_simp; (try with_reducible rfl))
        try simp only [Act.put, List.setIfInBounds_toArray, List.set_cons_zero, List.set_cons_succ]
        refine two_takeT 19 (some 75) (v := ?_) rfl rfl (by kernel_rfl) (by kernel_rfl) (by kernel_rfl) (by decide) (fun _ _ _ h => h) (Or.inl ⟨by rfl, ?hy19⟩) hT hS ?_
        case hy19 => (intro w' hT'; (try unfold T8 at hT'); (try unfold T9 at hT'); (try unfold S8 at hT'); go_simp; (try with_reducible rfl))
        try simp only [Act.put, List.setIfInBounds_toArray, List.set_cons_zero, List.set_cons_succ]
        refine two_takeT 20 (some 76) (v := ?_) rfl rfl (by kernel_rfl) (by kernel_rfl) (by kernel_rfl) (by decide) (fun _ _ _ h => h) (Or.inl ⟨by rfl, ?hy20⟩) hT hS ?_
        case hy20 => (intro w' hT'; (try unfold T8 at hT'); (try unfold T9 at hT'); (try unfold S8 at hT'); go_simp; (try with_reducible rfl))
        try simp only [Act.put, List.setIfInBounds_toArray, List.set_cons_zero, List.set_cons_succ]
        refine two_takeT 21 (some 77) (v := ?_) rfl rfl (by kernel_rfl) (by kernel_rfl) (by kernel_rfl) (by decide) (fun _ _ _ h => h) (Or.inl ⟨by rfl, ?hy21⟩) hT hS ?_
        case hy21 => (intro w' hT'; (try unfold T8 at hT'); (try unfold T9 at hT'); (try unfold S8 at hT'); go_simp; (try with_reducible rfl))
        try simp only [Act.put, List.setIfInBounds_toArray, List.set_cons_zero, List.set_cons_succ]
        refine two_takeT 22 (some 78) (v := ?_) rfl rfl (by kernel_rfl) (by kernel_rfl) (by kernel_rfl) (by decide) (fun _ _ _ h => h) (Or.inl ⟨by rfl, ?hy22⟩) hT hS ?_
        case hy22 => (intro w' hT'; (try unfold T8 at hT'); (try unfold T9 at hT'); (try unfold S8 at hT'); go_simp; (try with_reducible rfl))
        try simp only [Act.put, List.setIfInBounds_toArray, List.set_cons_zero, List.set_cons_succ]
        refine two_takeT 23 (some 79) (v := ?_) rfl rfl (by kernel_rfl) (by kernel_rfl) (by kernel_rfl) (by decide) (fun _ _ _ h => h) (Or.inl ⟨by rfl, ?hy23⟩) hT hS ?_
        case hy23 => (intro w' hT'; (try unfold T8 at hT'); (try unfold T9 at hT'); (try unfold S8 at hT'); go_simp; (try with_reducible rfl))
        try simp only [Act.put, List.setIfInBounds_toArray, List.set_cons_zero, List.set_cons_succ]
        refine two_takeT 24 (some 80) (v := ?_) rfl rfl (by kernel_rfl) (by kernel_rfl) (by kernel_rfl) (by decide) (fun _ _ _ h => h) (Or.inl ⟨by rfl, ?hy24⟩) hT hS ?_
        case hy24 => (intro w' hT'; (try unfold T8 at hT'); (try unfold T9 at hT'); (try unfold S8 at hT'); go_simp; (try with_reducible rfl))
        try simp only [Act.put, List.setIfInBounds_toArray, List.set_cons_zero, List.set_cons_succ]
        refine two_takeT 25 (some 81) (v := ?_) rfl rfl (by kernel_rfl) (by kernel_rfl) (by kernel_rfl) (by decide) (fun _ _ _ h => h) (Or.inl ⟨by rfl, ?hy25⟩) hT hS ?_
        case hy25 => (intro w' hT'; (try unfold T8 at hT'); (try unfold T9 at hT'); (try unfold S8 at hT'); go_simp; (try with_reducible rfl))
        try simp only [Act.put, List.setIfInBounds_toArray, List.set_cons_zero, List.set_cons_succ]
        refine two_takeT 26 (some 82) (v := ?_) rfl rfl (by kernel_rfl) (by kernel_rfl) (by kernel_rfl) (by decide) (fun _ _ _ h => h) (Or.inl ⟨by rfl, ?hy26⟩) hT hS ?_
        case hy26 => (intro w' hT'; (try unfold T8 at hT'); (try unfold T9 at hT'); (try unfold S8 at hT'); go_simp; (try with_reducible rfl))
        try simp only [Act.put, List.setIfInBounds_toArray, List.set_cons_zero, List.set_cons_succ]
        refine two_takeT 27 (some 83) (v := ?_) rfl rfl (by kernel_rfl) (by kernel_rfl) (by kernel_rfl) (by decide) (fun _ _ _ h => h) (Or.inl ⟨by rfl, ?hy27⟩) hT hS ?_
        case hy27 => (intro w' hT'; (try unfold T8 at hT'); (try unfold T9 at hT'); (try unfold S8 at hT'); go_simp; (try with_reducible rfl))
        try simp only [Act.put, List.setIfInBounds_toArray, List.set_cons_zero, List.set_cons_succ]
        refine two_one 28 rfl (by kernel_rfl) ?_
        intro K hK
        go_simp
        refine (HSPN.out y6).mono ?_
        rintro e y7 ⟨rfl, hbz⟩
        have HBy7 := Lib.hid ((HBy6.out).trans (hbz.mono (HBy6.out).size))
        have hT1 := HTC.out y7 HBy7.out
        refine hK.out _ _ hT1 (fun _ _ => hS) ?_
        clear hK K hT hbz
        have hT := hT1
        clear hT1
        try simp only [Act.put, List.setIfInBounds_toArray, List.set_cons_zero, List.set_cons_succ]
        refine two_takeT 29 (some 85) (v := ?_) rfl rfl (by kernel_rfl) (by kernel_rfl) (by kernel_rfl) (by decide) (fun _ _ _ h => h) (Or.inl ⟨by rfl, ?hy29⟩) hT hS ?_
        case hy29 => (intro w' hT'; (try unfold T8 at hT'); (try unfold T9 at hT'); (try unfold S8 at hT'); go_simp; (try with_reducible rfl))
        try simp only [Act.put, List.setIfInBounds_toArray, List.set_cons_zero, List.set_cons_succ]
        refine two_takeT 30 (some 86) (v := ?_) rfl rfl (by kernel_rfl) (by kernel_rfl) (by kernel_rfl) (by decide) (fun _ _ _ h => h) (Or.inl ⟨by rfl, ?hy30⟩) hT hS ?_
        case hy30 => (intro w' hT'; (try unfold T8 at hT'); (try unfold T9 at hT'); (try unfold S8 at hT'); go_simp; (try with_reducible rfl))
        try simp only [Act.put, List.setIfInBounds_toArray, List.set_cons_zero, List.set_cons_succ]
        refine two_takeT 31 (some 87) (v := ?_) rfl rfl (by kernel_rfl) (by kernel_rfl) (by kernel_rfl) (by decide) (fun _ _ _ h => h) (Or.inl ⟨by rfl, ?hy31⟩) hT hS ?_
        case hy31 => (intro w' hT'; (try unfold T8 at hT'); (try unfold T9 at hT'); (try unfold S8 at hT'); go_simp; (try with_reducible rfl))
        try simp only [Act.put, List.setIfInBounds_toArray, List.set_cons_zero, List.set_cons_succ]
        refine two_takeT 32 (some 88) (v := ?_) rfl rfl (by kernel_rfl) (by kernel_rfl) (by kernel_rfl) (by decide) (fun _ _ _ h => h) (Or.inl ⟨by rfl, ?hy32⟩) hT hS ?_
        case hy32 => (intro w' hT'; (try unfold T8 at hT'); (try unfold T9 at hT'); (try unfold S8 at hT'); go_simp; (try with_reducible rfl))
        try simp only [Act.put, List.setIfInBounds_toArray, List.set_cons_zero, List.set_cons_succ]
        refine two_takeT 33 (some 89) (v := ?_) rfl rfl (by kernel_rfl) (by kernel_rfl) (by kernel_rfl) (by decide) (fun _ _ _ h => h) (Or.inl ⟨by rfl, ?hy33⟩) hT hS ?_
        case hy33 => (intro w' hT'; (try unfold T8 at hT'); (try unfold T9 at hT'); (try unfold S8 at hT'); go_simp; (try with_reducible rfl))
        try simp only [Act.put, List.setIfInBounds_toArray, List.set_cons_zero, List.set_cons_succ]
        refine two_takeT 34 (some 90) (v := ?_) rfl rfl (by kernel_rfl) (by kernel_rfl) (by kernel_rfl) (by decide) (fun _ _ _ h => h) (Or.inl ⟨by rfl, ?hy34⟩) hT hS ?_
        case hy34 => (intro w' hT'; (try unfold T8 at hT'); (try unfold T9 at hT'); (try unfold S8 at hT'); go_simp; (try with_reducible rfl))
        try simp only [Act.put, List.setIfInBounds_toArray, List.set_cons_zero, List.set_cons_succ]
        refine two_takeT 35 (some 91) (v := ?_) rfl rfl (by kernel_rfl) (by kernel_rfl) (by kernel_rfl) (by decide) (fun _ _ _ h => h) (Or.inl ⟨by rfl, ?hy35⟩) hT hS ?_
        case hy35 => (intro w' hT'; (try unfold T8 at hT'); (try unfold T9 at hT'); (try unfold S8 at hT'); go_simp; (try with_reducible rfl))
        try simp only [Act.put, List.setIfInBounds_toArray, List.set_cons_zero, List.set_cons_succ]
        refine two_takeT 36 (some 92) (v := ?_) rfl rfl (by kernel_rfl) (by kernel_rfl) (by kernel_rfl) (by decide) (fun _ _ _ h => h) (Or.inl ⟨by rfl, ?hy36⟩) hT hS ?_
        case hy36 => (intro w' hT'; (try unfold T8 at hT'); (try unfold T9 at hT'); (try unfold S8 at hT'); go_simp; (try with_reducible rfl))
        try simp only [Act.put, List.setIfInBounds_toArray, List.set_cons_zero, List.set_cons_succ]
        refine two_takeT 37 (some 93) (v := ?_) rfl rfl (by kernel_rfl) (by kernel_rfl) (by kernel_rfl) (by decide) (fun _ _ _ h => h) (Or.inl ⟨by rfl, ?hy37⟩) hT hS ?_
        case hy37 => (intro w' hT'; (try unfold T8 at hT'); (try unfold T9 at hT'); (try unfold S8 at hT'); go_simp; (try with_reducible rfl))
        try simp only [Act.put, List.setIfInBounds_toArray, List.set_cons_zero, List.set_cons_succ]
        refine two_takeT 38 (some 94) (v := ?_) rfl rfl (by kernel_rfl) (by kernel_rfl) (by kernel_rfl) (by decide) (fun _ _ _ h => h) (Or.inl ⟨by rfl, ?hy38⟩) hT hS ?_
        case hy38 => (intro w' hT'; (try unfold T8 at hT'); (try unfold T9 at hT'); (try unfold S8 at hT'); go_simp; (try with_reducible rfl))
        try simp only [Act.put, List.setIfInBounds_toArray, List.set_cons_zero, List.set_cons_succ]
        refine two_done (by kernel_rfl) ?_ _
        clear hT hS
        have hs0 := HHS.out y7 HBy7.out
        obtain ⟨e1, cm1⟩ := HCM.out.sync
        have hsy := hsync_any hs0 HCM.out.runs HE.out (ex_bnd (by omega) HCM.out)
        rw [e1] at hsy
        have HSY := Lib.hid hsy
        have HC1 := Lib.hid cm1
        clear hs0 e1 cm1 hsy
        go_wp2_with fail
        refine HSY.out.mono ?_
        rintro e z1 ⟨rfl, hs1, _⟩
        obtain ⟨e2, s2, cm2⟩ := ex_rot HC1.out
        have hro := hrotate_any hs1 HC1.out.runs HE.out (ex_bnd (by omega) HC1.out) (by rw [HC1.out.segs, ex_next]; omega)
        rw [e2] at hro
        have HRO := Lib.hid hro
        have HC2 := Lib.hid cm2
        clear hs1 e2 cm2 hro
        go_wp2_with fail
        refine HRO.out.mono ?_
        rintro e z2 ⟨rfl, N2, _, hs2, _⟩
        have hbd2 := HC2.out.bnd (by rw [lsOf_17]; decide) (by rw [nextOf_snoc]; decide)
        have hr2 := hrotate_any hs2 HC2.out.runs HE.out hbd2 (by rw [HC2.out.segs, nextOf_snoc]; decide)
        rw [ex_rot2 HC2.out] at hr2
        have HR2 := Lib.hid hr2
        have HBD2 := Lib.hid hbd2
        clear hs2 hr2 hbd2
        go_wp2_with fail
        refine HR2.out.mono ?_
        rintro e z3 ⟨rfl, N3, _, hs3, _⟩
        have hrt := hretain_any hs3 HC2.out.runs HE.out HBD2.out 2
        obtain ⟨e4, s4, cm4⟩ := ex_ret HC2.out
        rw [e4] at hrt
        have HRT := Lib.hid hrt
        have HC4 := Lib.hid cm4
        clear hs3 hrt e4 cm4
        go_wp2_with fail
        refine HRT.out.mono ?_
        rintro e z4 ⟨rfl, N4, _, hs4, _⟩
        have hnm := hs4.live.names
        rw [ex_names2 HC4.out, ex_lit2] at hnm
        have HNM := Lib.hid hnm
        have HH4 := Lib.hid hs4
        clear hnm hs4
        go_wp2_with fail
        refine HNM.out.mono ?_
        rintro e z5 ⟨u5, rfl, hu5, hb5⟩
        obtain ⟨nx5, nc5, hnx5, _⟩ := OwnS.each hu5
        subst hnx5
        have hl5 : ([⟨#[108, 49, 54]⟩, ⟨#[108, 49, 55]⟩] : List ByteArray).length = 2 := rfl
        rw [hl5] at hu5 ⊢
        have hst := sameTexts_lit [⟨#[108, 49, 54]⟩, ⟨#[108, 49, 55]⟩] hl5 (by decide) hu5.rd
        simp only [List.map_cons, List.map_nil] at hst
        have HST := Lib.hid hst
        have HH5 := Lib.hid (HH4.out.below hb5)
        clear hu5 hb5 hl5 hst
        go_wp2_with fail
        refine HST.out.mono ?_
        rintro e z6 ⟨rfl, hb6⟩
        have hs6 := HH5.out.below hb6
        have hfi := hfirst_any hs6 (HC4.out.bnd (by decide) (by decide)).many
        rw [if_pos HC4.out.runs, HC4.out.segs] at hfi
        have hf16 : firstOf [⟨16, [spanN 16]⟩, ⟨17, []⟩] = 16 := rfl
        rw [hf16] at hfi
        have HFI := Lib.hid hfi
        have HH6 := Lib.hid hs6
        clear hb6 hs6 hfi hf16
        go_wp2_with fail
        refine HFI.out.mono ?_
        rintro e z7 ⟨rfl, hb7⟩
        have HBF := Lib.hid (HH6.out.below hb7).live.below
        clear hb7
        go_wp2_with fail
        go_ret
        exact ⟨rfl, HBF.out⟩
end Go.Proofs.YtiepipcankhdnaaGreatDoor

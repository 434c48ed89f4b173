/- 'HostlogBack', walked. -/
import Derived.Test.YtiepipcankhdnaaGreatDoorHlBk
namespace Go.Proofs.YtiepipcankhdnaaGreatDoor
set_option linter.unusedSimpArgs false
set_option linter.unusedVariables false
set_option maxRecDepth 100000
open Go.RowKit Go.Maps
open Dsk

set_option maxHeartbeats 16000000 in
theorem hostlogBack_any (v tv : Value) (l : List Sp.Span) (ts : List Bool) (m : Int) (w : World) (h1 : SpansIn w (v, l)) (h2 : BoolsIn w (tv, ts)) (hm : 0 ≤ m ∧ m ≤ 255) (he : LEnv w) :
    Calls Tryz.prog 3 #[v, tv, .int .u8 m] w fun e w' => e = .returned (.bool true) ∧ Below w.heap.size w w' := by
  obtain ⟨hrd, hlm, hbd⟩ := h1
  obtain ⟨⟨tx, tc, htv, hts⟩, htm⟩ := h2
  simp only at hrd hlm hbd htv hts htm
  obtain ⟨x, c, rfl, hcap, hel⟩ := rdSp_open hrd
  subst htv
  have HEL := Lib.hid hel
  have HBD := Lib.hid hbd
  have HTS := Lib.hid hts
  have HE := Lib.hid he
  obtain ⟨n, hn⟩ : ∃ n, n = l.length := ⟨_, rfl⟩
  obtain ⟨tn, htn⟩ : ∃ tn, tn = ts.length := ⟨_, rfl⟩
  rw [← hn] at hlm ⊢
  rw [← htn] at htm ⊢
  unfold maxLen at hlm htm
  have HN := Lib.hid hn
  have HTN := Lib.hid htn
  clear hrd hbd hts hel he hn htn hcap
  by_cases hbig : 100 < n
  · have hbig2 : (100 : Int) < n := by omega
    go_enter Tryz.func3, Tryz.ntmps3
    go_wp2_with fail
    go_ret
    exact ⟨rfl, Below.refl _ _⟩
  have hbig2 : ¬ (100 : Int) < n := by omega
  go_enter Tryz.func3, Tryz.ntmps3
  go_wp2_with fail
  refine (hopened_any 1048576 (by omega) (by omega) w).mono ?_
  rintro e w1 ⟨bd, j, X, H, rfl, hs⟩
  have HS1 := Lib.hid hs
  clear hs
  go_wp2_with fail
  go_loopw [9, 10] (fun v9 v10 wr => ∃ k : Nat, v10 = .int .i64 k ∧ k ≤ n ∧ BackInv w wr bd j k l v9) (fun _ v10 _ => n - (intOf v10).toNat)
  case atStart => exact ⟨0, rfl, Nat.zero_le _, _, _, X, H, HS1.out, calm_new, OwnRow.nil _ _, fun b e => (by cases e)⟩
  case round =>
    obtain ⟨k, rfl, hk, hinv⟩ := hrel
    have HI := Lib.hid hinv
    clear hinv
    by_cases hlt : k < n
    · have hkl : k < l.length := by rw [← HN.out]; exact hlt
      have hl100 : l.length ≤ 100 := by rw [← HN.out]; omega
      have hlt2 : (k : Int) < n := by omega
      obtain ⟨b, off, hxe, hb, p0, p1, p2, p3, p4, p5, p6, p7⟩ := HEL.out k hkl
      have hbk := HBD.out l[k] (List.getElem_mem hkl)
      obtain ⟨xk, hxk⟩ : ∃ xk, xk = l[k] := ⟨_, rfl⟩
      have HXK := Lib.hid hxk
      have HZZ := Lib.hid (show l[k].service.size ≤ maxLen ∧ l[k].host.size ≤ maxLen ∧ l[k].note.size ≤ maxLen from ⟨hbk.service, hbk.host, hbk.note⟩)
      rw [← hxk] at p0 p1 p2 p3 p4 p5 p6 p7
      have HCK := Lib.hid (fun W : World => hcheck_any (w := W) xk (by rw [hxk]; exact hbk.service) (by rw [hxk]; exact hbk.host) (by rw [hxk]; exact hbk.note))
      clear hxk hbk
      obtain ⟨zt, zi, zp, zs, zh, za, zd, zn⟩ := xk
      simp only at p0 p1 p2 p3 p4 p5 p6 p7
      have HTC := Lib.hid (fun (W : World) (hW : Below w.heap.size w W) => show W.cell? ⟨b, off + k * 8, none⟩ = some (.int .i64 zt) ∧ W.cell? ⟨b, off + k * 8 + 1, none⟩ = some (.int .i64 zi) ∧ W.cell? ⟨b, off + k * 8 + 2, none⟩ = some (.int .i64 zp) ∧ W.cell? ⟨b, off + k * 8 + 3, none⟩ = some (.string zs) ∧ W.cell? ⟨b, off + k * 8 + 4, none⟩ = some (.string zh) ∧ W.cell? ⟨b, off + k * 8 + 5, none⟩ = some (.int .i64 za) ∧ W.cell? ⟨b, off + k * 8 + 6, none⟩ = some (.int .i64 zd) ∧ W.cell? ⟨b, off + k * 8 + 7, none⟩ = some (.string zn) from
        ⟨Below.old hW p0 hb, Below.old hW p1 hb, Below.old hW p2 hb, Below.old hW p3 hb, Below.old hW p4 hb, Below.old hW p5 hb, Below.old hW p6 hb, Below.old hW p7 hb⟩)
      subst hxe
      clear p0 p1 p2 p3 p4 p5 p6 p7
      obtain ⟨q0, q1, q2, q3, q4, q5, q6, q7⟩ := HTC.out wr HI.out.live
      by_cases hmay : Sp.May (⟨zt, zi, zp, zs, zh, za, zd, zn⟩ : Sp.Span)
      · rw [if_pos hmay] at HCK
        unfold spV at HCK
        go_wp2_with fail
        refine (HCK.out wr).mono ?_
        rintro e w2 ⟨rfl, hb2⟩
        have HI2 := Lib.hid (HI.out.below hb2)
        clear hb2 q0 q1 q2 q3 q4 q5 q6 q7
        obtain ⟨q0, q1, q2, q3, q4, q5, q6, q7⟩ := HTC.out w2 HI2.out.live
        obtain ⟨u', w3, hrun, hbw3, hmid⟩ := HI2.out.push hkl (by rw [← HXK.out]; exact hmay) hl100 (w' := w2.alloc (.cells #[.int .i64 zt, .int .i64 zi, .int .i64 zp, .string zs, .string zh, .int .i64 za, .int .i64 zd, .string zn] 31 (0, 0))) (by rw [← HXK.out]; rfl)
        have HRUN := Lib.hid hrun
        have HM3 := Lib.hid (show BackMid w w3 bd j k l u' from hmid)
        clear hrun hbw3 hmid
        go_wp2_with (at_builtin; refine Lib.wpList_append_run _ rfl _ _ _ _ rfl _ _ rfl rfl _ _ HRUN.out ?_)
        go_wp2_with fail
        refine wp_region_two (T := fun W => W.cell? ⟨b, off + k * 8, none⟩ = some (.int .i64 zt) ∧ W.cell? ⟨b, off + k * 8 + 1, none⟩ = some (.int .i64 zi) ∧ W.cell? ⟨b, off + k * 8 + 2, none⟩ = some (.int .i64 zp) ∧ W.cell? ⟨b, off + k * 8 + 3, none⟩ = some (.string zs) ∧ W.cell? ⟨b, off + k * 8 + 4, none⟩ = some (.string zh) ∧ W.cell? ⟨b, off + k * 8 + 5, none⟩ = some (.int .i64 za) ∧ W.cell? ⟨b, off + k * 8 + 6, none⟩ = some (.int .i64 zd) ∧ W.cell? ⟨b, off + k * 8 + 7, none⟩ = some (.string zn)) (S := fun _ => True) (n := 99) (by kernel_rfl) ?_
        obtain ⟨y1, hy1⟩ : ∃ y1, y1 = w3.drew := ⟨_, rfl⟩
        rw [← hy1]
        have HM1 := Lib.hid (HM3.out.below (show Below w3.heap.size w3 y1 by rw [hy1]; exact (Below.refl _ _).drew))
        have hS : True := trivial
        have hT := HTC.out y1 HM1.out.live
        have HAP := Lib.hid (HM1.out.app HE.out hkl hl100 HZZ.out.1 HZZ.out.2.1 HZZ.out.2.2)
        rw [← HXK.out] at HAP
        rw [if_pos hmay] at HAP
        unfold spV at HAP
        clear hy1
        refine two_takeT 0 (some 48) (v := ?_) rfl rfl (by kernel_rfl) (by kernel_rfl) (by kernel_rfl) (by decide) (fun _ _ _ h => h) (Or.inl ⟨by rfl, ?hy0⟩) hT hS ?_
        case hy0 => (intro w' hT'; (try unfold T8 at hT'); (try unfold T9 at hT'); (try unfold S8 at hT'); go_simp; (try with_reducible rfl))
        try simp only [Act.put, List.setIfInBounds_toArray, List.set_cons_zero, List.set_cons_succ]
        refine two_takeT 1 (some 49) (v := ?_) rfl rfl (by kernel_rfl) (by kernel_rfl) (by kernel_rfl) (by decide) (fun _ _ _ h => h) (Or.inl ⟨by rfl, ?hy1⟩) hT hS ?_
        case hy1 => (intro w' hT'; (try unfold T8 at hT'); (try unfold T9 at hT'); (try unfold S8 at hT'); go_simp; (try with_reducible rfl))
        try simp only [Act.put, List.setIfInBounds_toArray, List.set_cons_zero, List.set_cons_succ]
        refine two_takeT 2 (some 50) (v := ?_) rfl rfl (by kernel_rfl) (by kernel_rfl) (by kernel_rfl) (by decide) (fun _ _ _ h => h) (Or.inl ⟨by rfl, ?hy2⟩) hT hS ?_
        case hy2 => (intro w' hT'; (try unfold T8 at hT'); (try unfold T9 at hT'); (try unfold S8 at hT'); go_simp; (try with_reducible rfl))
        try simp only [Act.put, List.setIfInBounds_toArray, List.set_cons_zero, List.set_cons_succ]
        refine two_takeT 3 (some 51) (v := ?_) rfl rfl (by kernel_rfl) (by kernel_rfl) (by kernel_rfl) (by decide) (fun _ _ _ h => h) (Or.inl ⟨by rfl, ?hy3⟩) hT hS ?_
        case hy3 => (intro w' hT'; (try unfold T8 at hT'); (try unfold T9 at hT'); (try unfold S8 at hT'); go_simp; (try with_reducible rfl))
        try simp only [Act.put, List.setIfInBounds_toArray, List.set_cons_zero, List.set_cons_succ]
        refine two_takeT 4 (some 52) (v := ?_) rfl rfl (by kernel_rfl) (by kernel_rfl) (by kernel_rfl) (by decide) (fun _ _ _ h => h) (Or.inl ⟨by rfl, ?hy4⟩) hT hS ?_
        case hy4 => (intro w' hT'; (try unfold T8 at hT'); (try unfold T9 at hT'); (try unfold S8 at hT'); go_simp; (try with_reducible rfl))
        try simp only [Act.put, List.setIfInBounds_toArray, List.set_cons_zero, List.set_cons_succ]
        refine two_takeT 7 (some 55) (v := ?_) rfl rfl (by kernel_rfl) (by kernel_rfl) (by kernel_rfl) (by decide) (fun _ _ _ h => h) (Or.inl ⟨by rfl, ?hy7⟩) hT hS ?_
        case hy7 => (intro w' hT'; (try unfold T8 at hT'); (try unfold T9 at hT'); (try unfold S8 at hT'); go_simp; (try with_reducible rfl))
        try simp only [Act.put, List.setIfInBounds_toArray, List.set_cons_zero, List.set_cons_succ]
        refine two_takeT 8 (some 56) (v := ?_) rfl rfl (by kernel_rfl) (by kernel_rfl) (by kernel_rfl) (by decide) (fun _ _ _ h => h) (Or.inl ⟨by rfl, ?hy8⟩) hT hS ?_
        case hy8 => (intro w' hT'; (try unfold T8 at hT'); (try unfold T9 at hT'); (try unfold S8 at hT'); go_simp; (try with_reducible rfl))
        try simp only [Act.put, List.setIfInBounds_toArray, List.set_cons_zero, List.set_cons_succ]
        refine two_takeT 9 (some 57) (v := ?_) rfl rfl (by kernel_rfl) (by kernel_rfl) (by kernel_rfl) (by decide) (fun _ _ _ h => h) (Or.inl ⟨by rfl, ?hy9⟩) hT hS ?_
        case hy9 => (intro w' hT'; (try unfold T8 at hT'); (try unfold T9 at hT'); (try unfold S8 at hT'); go_simp; (try with_reducible rfl))
        try simp only [Act.put, List.setIfInBounds_toArray, List.set_cons_zero, List.set_cons_succ]
        refine two_takeT 10 (some 58) (v := ?_) rfl rfl (by kernel_rfl) (by kernel_rfl) (by kernel_rfl) (by decide) (fun _ _ _ h => h) (Or.inl ⟨by rfl, ?hy10⟩) hT hS ?_
        case hy10 => (intro w' hT'; (try unfold T8 at hT'); (try unfold T9 at hT'); (try unfold S8 at hT'); go_simp; (try with_reducible rfl))
        try simp only [Act.put, List.setIfInBounds_toArray, List.set_cons_zero, List.set_cons_succ]
        refine two_one 5 rfl (by kernel_rfl) ?_
        intro K hK
        go_simp
        refine (HAP.out).mono ?_
        rintro e y2 ⟨rfl, hbdn⟩
        have HD2 := Lib.hid hbdn
        have hT1 := HTC.out y2 (hbdn.live)
        refine hK.out _ _ hT1 (fun _ _ => hS) ?_
        clear hK K hT hbdn
        have hT := hT1
        clear hT1
        try simp only [Act.put, List.setIfInBounds_toArray, List.set_cons_zero, List.set_cons_succ]
        refine two_takeT 6 (some 54) (v := ?_) rfl rfl (by kernel_rfl) (by kernel_rfl) (by kernel_rfl) (by decide) (fun _ _ _ h => h) (Or.inl ⟨by rfl, ?hy6⟩) hT hS ?_
        case hy6 => (intro w' hT'; (try unfold T8 at hT'); (try unfold T9 at hT'); (try unfold S8 at hT'); go_simp; (try with_reducible rfl))
        try simp only [Act.put, List.setIfInBounds_toArray, List.set_cons_zero, List.set_cons_succ]
        refine two_one 11 rfl (by kernel_rfl) ?_
        intro K hK
        go_simp
        refine (HCK.out y2).mono ?_
        rintro e y3 ⟨rfl, hb3⟩
        have HB3 := Lib.hid hb3
        have hT1 := HTC.out y3 (HD2.out.live.trans (hb3.mono HD2.out.live.size))
        refine hK.out _ _ hT1 (fun _ _ => hS) ?_
        clear hK K hT hb3
        have hT := hT1
        clear hT1
        try simp only [Act.put, List.setIfInBounds_toArray, List.set_cons_zero, List.set_cons_succ]
        refine two_takeT 12 (some 60) (v := ?_) rfl rfl (by kernel_rfl) (by kernel_rfl) (by kernel_rfl) (by decide) (fun _ _ _ h => h) (Or.inl ⟨by rfl, ?hy12⟩) hT hS ?_
        case hy12 => (intro w' hT'; (try unfold T8 at hT'); (try unfold T9 at hT'); (try unfold S8 at hT'); go_simp; (try with_reducible rfl))
        try simp only [Act.put, List.setIfInBounds_toArray, List.set_cons_zero, List.set_cons_succ]
        refine two_takeT 13 (some 61) (v := ?_) rfl rfl (by kernel_rfl) (by kernel_rfl) (by kernel_rfl) (by decide) (fun _ _ _ h => h) (Or.inl ⟨by rfl, ?hy13⟩) hT hS ?_
        case hy13 => (intro w' hT'; (try unfold T8 at hT'); (try unfold T9 at hT'); (try unfold S8 at hT'); go_simp; (try with_reducible rfl))
        try simp only [Act.put, List.setIfInBounds_toArray, List.set_cons_zero, List.set_cons_succ]
        refine two_done (by kernel_rfl) ?_ _
        clear hT hS HAP
        have HD3 := Lib.hid (HD2.out.below HB3.out)
        obtain ⟨zz, hzz⟩ : ∃ zz, zz = y3 := ⟨_, rfl⟩
        rw [← hzz] at HD3 ⊢
        clear hzz
        by_cases hkt : k < tn
        · have hktl : k < ts.length := by rw [← HTN.out]; exact hkt
          have hkt2 : (k : Int) < tn := by omega
          obtain ⟨tb, to, htx, htb, htc⟩ := HTS.out k hktl
          have tcell := Below.old HD3.out.live htc htb
          subst htx
          cases htv : ts[k] with
          | false =>
            rw [htv] at tcell
            clear htc htv
            go_wp2_with fail
            go_roundw
            case rel => exact ⟨k + 1, by go_num, by omega, HD3.out.inv (by omega)⟩
            case measure => simp [intOf]; omega
          | true =>
            rw [htv] at tcell
            clear htc htv
            have HRT := Lib.hid (HD3.out.rot HE.out (by omega))
            go_wp2_with fail
            refine HRT.out.mono ?_
            rintro e y4 ⟨rfl, hd4⟩
            have HD4 := Lib.hid hd4
            clear hd4 tcell
            go_wp2_with fail
            go_roundw
            case rel => exact ⟨k + 1, by go_num, by omega, HD4.out.inv (by omega)⟩
            case measure => simp [intOf]; omega
        · have hkt2 : ¬ (k : Int) < tn := by omega
          go_wp2_with fail
          go_roundw
          case rel => exact ⟨k + 1, by go_num, by omega, HD3.out.inv (by omega)⟩
          case measure => simp [intOf]; omega
      · rw [if_neg hmay] at HCK
        unfold spV at HCK
        go_wp2_with fail
        refine (HCK.out wr).mono ?_
        rintro e w2 ⟨rfl, hb2⟩
        have HM2 := Lib.hid ((HI.out.below hb2).no hkl (by rw [← HXK.out]; exact hmay))
        clear hb2 q0 q1 q2 q3 q4 q5 q6 q7
        go_wp2_with fail
        refine wp_region_two (T := fun W => W.cell? ⟨b, off + k * 8, none⟩ = some (.int .i64 zt) ∧ W.cell? ⟨b, off + k * 8 + 1, none⟩ = some (.int .i64 zi) ∧ W.cell? ⟨b, off + k * 8 + 2, none⟩ = some (.int .i64 zp) ∧ W.cell? ⟨b, off + k * 8 + 3, none⟩ = some (.string zs) ∧ W.cell? ⟨b, off + k * 8 + 4, none⟩ = some (.string zh) ∧ W.cell? ⟨b, off + k * 8 + 5, none⟩ = some (.int .i64 za) ∧ W.cell? ⟨b, off + k * 8 + 6, none⟩ = some (.int .i64 zd) ∧ W.cell? ⟨b, off + k * 8 + 7, none⟩ = some (.string zn)) (S := fun _ => True) (n := 99) (by kernel_rfl) ?_
        obtain ⟨y1, hy1⟩ : ∃ y1, y1 = w2.drew := ⟨_, rfl⟩
        rw [← hy1]
        have HM1 := Lib.hid (HM2.out.below (show Below w2.heap.size w2 y1 by rw [hy1]; exact (Below.refl _ _).drew))
        have hS : True := trivial
        have hT := HTC.out y1 HM1.out.live
        have HAP := Lib.hid (HM1.out.app HE.out hkl hl100 HZZ.out.1 HZZ.out.2.1 HZZ.out.2.2)
        rw [← HXK.out] at HAP
        rw [if_neg hmay] at HAP
        unfold spV at HAP
        clear hy1
        refine two_takeT 0 (some 48) (v := ?_) rfl rfl (by kernel_rfl) (by kernel_rfl) (by kernel_rfl) (by decide) (fun _ _ _ h => h) (Or.inl ⟨by rfl, ?hy0⟩) hT hS ?_
        case hy0 => (intro w' hT'; (try unfold T8 at hT'); (try unfold T9 at hT'); (try unfold S8 at hT'); go_simp; (try with_reducible rfl))
        try simp only [Act.put, List.setIfInBounds_toArray, List.set_cons_zero, List.set_cons_succ]
        refine two_takeT 1 (some 49) (v := ?_) rfl rfl (by kernel_rfl) (by kernel_rfl) (by kernel_rfl) (by decide) (fun _ _ _ h => h) (Or.inl ⟨by rfl, ?hy1⟩) hT hS ?_
        case hy1 => (intro w' hT'; (try unfold T8 at hT'); (try unfold T9 at hT'); (try unfold S8 at hT'); go_simp; (try with_reducible rfl))
        try simp only [Act.put, List.setIfInBounds_toArray, List.set_cons_zero, List.set_cons_succ]
        refine two_takeT 2 (some 50) (v := ?_) rfl rfl (by kernel_rfl) (by kernel_rfl) (by kernel_rfl) (by decide) (fun _ _ _ h => h) (Or.inl ⟨by rfl, ?hy2⟩) hT hS ?_
        case hy2 => (intro w' hT'; (try unfold T8 at hT'); (try unfold T9 at hT'); (try unfold S8 at hT'); go_simp; (try with_reducible rfl))
        try simp only [Act.put, List.setIfInBounds_toArray, List.set_cons_zero, List.set_cons_succ]
        refine two_takeT 3 (some 51) (v := ?_) rfl rfl (by kernel_rfl) (by kernel_rfl) (by kernel_rfl) (by decide) (fun _ _ _ h => h) (Or.inl ⟨by rfl, ?hy3⟩) hT hS ?_
        case hy3 => (intro w' hT'; (try unfold T8 at hT'); (try unfold T9 at hT'); (try unfold S8 at hT'); go_simp; (try with_reducible rfl))
        try simp only [Act.put, List.setIfInBounds_toArray, List.set_cons_zero, List.set_cons_succ]
        refine two_takeT 4 (some 52) (v := ?_) rfl rfl (by kernel_rfl) (by kernel_rfl) (by kernel_rfl) (by decide) (fun _ _ _ h => h) (Or.inl ⟨by rfl, ?hy4⟩) hT hS ?_
        case hy4 => (intro w' hT'; (try unfold T8 at hT'); (try unfold T9 at hT'); (try unfold S8 at hT'); go_simp; (try with_reducible rfl))
        try simp only [Act.put, List.setIfInBounds_toArray, List.set_cons_zero, List.set_cons_succ]
        refine two_takeT 7 (some 55) (v := ?_) rfl rfl (by kernel_rfl) (by kernel_rfl) (by kernel_rfl) (by decide) (fun _ _ _ h => h) (Or.inl ⟨by rfl, ?hy7⟩) hT hS ?_
        case hy7 => (intro w' hT'; (try unfold T8 at hT'); (try unfold T9 at hT'); (try unfold S8 at hT'); go_simp; (try with_reducible rfl))
        try simp only [Act.put, List.setIfInBounds_toArray, List.set_cons_zero, List.set_cons_succ]
        refine two_takeT 8 (some 56) (v := ?_) rfl rfl (by kernel_rfl) (by kernel_rfl) (by kernel_rfl) (by decide) (fun _ _ _ h => h) (Or.inl ⟨by rfl, ?hy8⟩) hT hS ?_
        case hy8 => (intro w' hT'; (try unfold T8 at hT'); (try unfold T9 at hT'); (try unfold S8 at hT'); go_simp; (try with_reducible rfl))
        try simp only [Act.put, List.setIfInBounds_toArray, List.set_cons_zero, List.set_cons_succ]
        refine two_takeT 9 (some 57) (v := ?_) rfl rfl (by kernel_rfl) (by kernel_rfl) (by kernel_rfl) (by decide) (fun _ _ _ h => h) (Or.inl ⟨by rfl, ?hy9⟩) hT hS ?_
        case hy9 => (intro w' hT'; (try unfold T8 at hT'); (try unfold T9 at hT'); (try unfold S8 at hT'); go_simp; (try with_reducible rfl))
        try simp only [Act.put, List.setIfInBounds_toArray, List.set_cons_zero, List.set_cons_succ]
        refine two_takeT 10 (some 58) (v := ?_) rfl rfl (by kernel_rfl) (by kernel_rfl) (by kernel_rfl) (by decide) (fun _ _ _ h => h) (Or.inl ⟨by rfl, ?hy10⟩) hT hS ?_
        case hy10 => (intro w' hT'; (try unfold T8 at hT'); (try unfold T9 at hT'); (try unfold S8 at hT'); go_simp; (try with_reducible rfl))
        try simp only [Act.put, List.setIfInBounds_toArray, List.set_cons_zero, List.set_cons_succ]
        refine two_one 5 rfl (by kernel_rfl) ?_
        intro K hK
        go_simp
        refine (HAP.out).mono ?_
        rintro e y2 ⟨rfl, hbdn⟩
        have HD2 := Lib.hid hbdn
        have hT1 := HTC.out y2 (hbdn.live)
        refine hK.out _ _ hT1 (fun _ _ => hS) ?_
        clear hK K hT hbdn
        have hT := hT1
        clear hT1
        try simp only [Act.put, List.setIfInBounds_toArray, List.set_cons_zero, List.set_cons_succ]
        refine two_takeT 6 (some 54) (v := ?_) rfl rfl (by kernel_rfl) (by kernel_rfl) (by kernel_rfl) (by decide) (fun _ _ _ h => h) (Or.inl ⟨by rfl, ?hy6⟩) hT hS ?_
        case hy6 => (intro w' hT'; (try unfold T8 at hT'); (try unfold T9 at hT'); (try unfold S8 at hT'); go_simp; (try with_reducible rfl))
        try simp only [Act.put, List.setIfInBounds_toArray, List.set_cons_zero, List.set_cons_succ]
        refine two_one 11 rfl (by kernel_rfl) ?_
        intro K hK
        go_simp
        refine (HCK.out y2).mono ?_
        rintro e y3 ⟨rfl, hb3⟩
        have HB3 := Lib.hid hb3
        have hT1 := HTC.out y3 (HD2.out.live.trans (hb3.mono HD2.out.live.size))
        refine hK.out _ _ hT1 (fun _ _ => hS) ?_
        clear hK K hT hb3
        have hT := hT1
        clear hT1
        try simp only [Act.put, List.setIfInBounds_toArray, List.set_cons_zero, List.set_cons_succ]
        refine two_takeT 12 (some 60) (v := ?_) rfl rfl (by kernel_rfl) (by kernel_rfl) (by kernel_rfl) (by decide) (fun _ _ _ h => h) (Or.inl ⟨by rfl, ?hy12⟩) hT hS ?_
        case hy12 => (intro w' hT'; (try unfold T8 at hT'); (try unfold T9 at hT'); (try unfold S8 at hT'); go_simp; (try with_reducible rfl))
        try simp only [Act.put, List.setIfInBounds_toArray, List.set_cons_zero, List.set_cons_succ]
        refine two_takeT 13 (some 61) (v := ?_) rfl rfl (by kernel_rfl) (by kernel_rfl) (by kernel_rfl) (by decide) (fun _ _ _ h => h) (Or.inl ⟨by rfl, ?hy13⟩) hT hS ?_
        case hy13 => (intro w' hT'; (try unfold T8 at hT'); (try unfold T9 at hT'); (try unfold S8 at hT'); go_simp; (try with_reducible rfl))
        try simp only [Act.put, List.setIfInBounds_toArray, List.set_cons_zero, List.set_cons_succ]
        refine two_done (by kernel_rfl) ?_ _
        clear hT hS HAP
        have HD3 := Lib.hid (HD2.out.below HB3.out)
        obtain ⟨zz, hzz⟩ : ∃ zz, zz = y3 := ⟨_, rfl⟩
        rw [← hzz] at HD3 ⊢
        clear hzz
        by_cases hkt : k < tn
        · have hktl : k < ts.length := by rw [← HTN.out]; exact hkt
          have hkt2 : (k : Int) < tn := by omega
          obtain ⟨tb, to, htx, htb, htc⟩ := HTS.out k hktl
          have tcell := Below.old HD3.out.live htc htb
          subst htx
          cases htv : ts[k] with
          | false =>
            rw [htv] at tcell
            clear htc htv
            go_wp2_with fail
            go_roundw
            case rel => exact ⟨k + 1, by go_num, by omega, HD3.out.inv (by omega)⟩
            case measure => simp [intOf]; omega
          | true =>
            rw [htv] at tcell
            clear htc htv
            have HRT := Lib.hid (HD3.out.rot HE.out (by omega))
            go_wp2_with fail
            refine HRT.out.mono ?_
            rintro e y4 ⟨rfl, hd4⟩
            have HD4 := Lib.hid hd4
            clear hd4 tcell
            go_wp2_with fail
            go_roundw
            case rel => exact ⟨k + 1, by go_num, by omega, HD4.out.inv (by omega)⟩
            case measure => simp [intOf]; omega
        · have hkt2 : ¬ (k : Int) < tn := by omega
          go_wp2_with fail
          go_roundw
          case rel => exact ⟨k + 1, by go_num, by omega, HD3.out.inv (by omega)⟩
          case measure => simp [intOf]; omega
    · obtain rfl : k = n := by omega
      have hge : ¬ (k : Int) < k := by omega
      obtain ⟨d, h, X2, H2, hs, hc, hu, hux⟩ := HI.out
      rw [List.take_of_length_le (by rw [← HN.out]; exact Nat.le_refl _)] at hc hu
      obtain ⟨rs, hrs⟩ : ∃ rs, rs = mays l := ⟨_, rfl⟩
      rw [← hrs] at hc hu
      obtain ⟨ux, uc, hu9⟩ := OwnRow.shape hu
      obtain ⟨rn, hrn⟩ : ∃ rn, rn = rs.length := ⟨_, rfl⟩
      rw [← hrn] at hu9
      subst hu9
      have hr100 : rn ≤ 100 := by have := mays_len l; rw [← hrs, ← hrn, ← HN.out] at this; omega
      have HRN := Lib.hid hrn
      obtain ⟨e0, hcd, hsame⟩ := hc.sync
      have hsy := hsync_any hs hc.runs HE.out (hc.bnd (by omega))
      rw [e0] at hsy
      have HSY := Lib.hid hsy
      obtain ⟨d2, hd2⟩ : ∃ d2, d2 = (syncP d h).2.2 := ⟨_, rfl⟩
      rw [hsame] at hcd HSY
      rw [← hd2] at hcd HSY
      have HC := Lib.hid hcd
      have HU := Lib.hid hu
      have HUX := Lib.hid hux
      clear hs hc hu hux e0 hcd hsame hsy hd2 hrs hrn HI
      go_wp2_with fail
      refine HSY.out.mono ?_
      rintro e y1 ⟨rfl, hs1, hK1⟩
      have HS1 := Lib.hid hs1
      have HU1 := Lib.hid (spTurnHK HU.out hK1 HUX.out)
      have HSU := Lib.hid (fun (W : World) (hW : Below y1.heap.size y1 W) => hsure_any (HS1.out.below hW) (HE.out.below (HS1.out.below hW).live.below) (HC.out.bnd (by omega)))
      rw [if_pos HC.out.runs, HC.out.sure, ← HRN.out] at HSU
      have HEN := Lib.hid (fun (W : World) (hW : Below y1.heap.size y1 W) => hendn_any (HS1.out.below hW) (HC.out.bnd (by omega)).many (by rw [HC.out.next, ← HRN.out]; omega))
      rw [if_pos HC.out.runs, HC.out.next, ← HRN.out] at HEN
      have HFI := Lib.hid (fun (W : World) (hW : Below y1.heap.size y1 W) => hfirst_any (HS1.out.below hW) (HC.out.bnd (by omega)).many)
      rw [if_pos HC.out.runs, HC.out.first] at HFI
      clear hs1 hK1 HU HSY
      go_wp2_with fail
      refine (HSU.out y1 (Below.refl _ _)).mono ?_
      rintro e y2 ⟨rfl, hb2⟩
      have HB2 := Lib.hid hb2
      clear hb2
      go_wp2_with fail
      refine (HEN.out y2 HB2.out).mono ?_
      rintro e y3 ⟨rfl, hb3⟩
      have HB3 := Lib.hid (HB2.out.trans (hb3.mono HB2.out.size))
      clear hb3
      go_wp2_with fail
      refine (HFI.out y3 HB3.out).mono ?_
      rintro e y4 ⟨rfl, hb4⟩
      have hb14 := HB3.out.trans (hb4.mono HB3.out.size)
      have HS4 := Lib.hid (HS1.out.below hb14)
      have HU4 := Lib.hid (OwnRow.below HU1.out hb14)
      obtain ⟨sm, hsm⟩ : ∃ sm, sm = m.toNat % 40 := ⟨_, rfl⟩
      have h40 : Int.tmod m 40 = (sm : Int) := by rw [Int.tmod_eq_emod_of_nonneg hm.1, hsm]; omega
      have hmw : IntKind.i64.wrap m = m := by rw [IntKind.wrap_i64]; omega
      have hs40 : sm < 40 := by omega
      obtain ⟨st, hst⟩ : ∃ st, st = 1 + sm := ⟨_, rfl⟩
      have hsts : (1 : Int) + (sm : Int) = (st : Int) := by omega
      have hstw : IntKind.i64.wrap (st : Int) = st := by rw [IntKind.wrap_i64]; omega
      have hst1 : 1 ≤ st := by omega
      have hst41 : st ≤ 40 := by omega
      clear hb4 hb14 hsm hst HSU HEN HFI HB2 HB3 HS1 HU1
      go_wp2_with fail
      go_loopw [11, 12, 14, 15, 16] (fun v11 v12 _ _ _ wr => ∃ (a : Nat) (X H : Nat → Prop), v12 = .int .i64 a ∧ a ≤ rn ∧ HS w X H wr (.pointer (some ⟨bd, 0, none⟩)) d2 j h ∧ OwnSp wr w.heap.size (.slice ux rn uc) rs ∧ OwnSp wr w.heap.size v11 (rs.take a) ∧ (∀ b, (Value.slice ux rn uc).ownBlock = some b → X b ∧ ¬ H b) ∧ (∀ b, v11.ownBlock = some b → X b ∧ ¬ H b) ∧ (∀ b, (Value.slice ux rn uc).ownBlock = some b → v11.ownBlock ≠ some b)) (fun _ v12 _ _ _ _ => rn - (intOf v12).toNat)
      case atStart => exact ⟨0, X2, H2, rfl, Nat.zero_le _, HS4.out, HU4.out, OwnRow.nil _ _, HUX.out, fun b e => (by cases e), fun b _ e => (by cases e)⟩
      case round =>
        obtain ⟨a, X3, H3, rfl, ha, hs3, hu3, hg3, hux3, hgx3, hne3⟩ := hrel
        have HH := Lib.hid hs3
        have HU3 := Lib.hid hu3
        have HG3 := Lib.hid hg3
        have HUX3 := Lib.hid hux3
        have HGX3 := Lib.hid hgx3
        have HNE3 := Lib.hid hne3
        clear hs3 hu3 hg3 hux3 hgx3 hne3
        have hrd := hread_any HH.out (HE.out.below HH.out.live.below) (HC.out.bnd (by omega)) a st (HC.out.num (by omega)) (HC.out.sureLe (by omega))
        unfold ReadPost at hrd
        rw [HC.out.read a st (by rw [← HRN.out]; exact ha)] at hrd
        obtain ⟨pg, hpg⟩ : ∃ pg, pg = (rs.drop a).take st := ⟨_, rfl⟩
        rw [← hpg] at hrd
        obtain ⟨pn, hpn⟩ : ∃ pn, pn = pg.length := ⟨_, rfl⟩
        rw [← hpn] at hrd
        have HPL := Lib.hid (show pn = min st (rn - a) by rw [hpn, hpg, List.length_take, List.length_drop, ← HRN.out])
        have HPG := Lib.hid hpg
        have HPN := Lib.hid hpn
        have HRD := Lib.hid hrd
        clear hpg hpn hrd
        obtain ⟨nx, hnx⟩ : ∃ nx, nx = a + pn := ⟨_, rfl⟩
        have hnxi : (a : Int) + (pn : Int) = (nx : Int) := by omega
        have hnx200 : nx ≤ 200 := by have := HPL.out; omega
        have hnxw : IntKind.i64.wrap (nx : Int) = nx := by rw [IntKind.wrap_i64]; omega
        have HNX := Lib.hid hnx
        clear hnx
        rw [hnxi] at HRD
        by_cases hlta : a < rn
        · have hlta2 : (a : Int) < rn := by omega
          have hp1 : ¬ (pn : Int) < 1 := by have := HPL.out; omega
          have hp2 : ¬ (st : Int) < pn := by have := HPL.out; omega
          have hp3 : nx ≤ rn ∧ a < nx := by have := HPL.out; omega
          go_wp2_with fail
          refine HRD.out.mono ?_
          rintro e y5 ⟨up, rfl, hup, hb5⟩
          obtain ⟨px, pc, hpx⟩ := OwnRow.shape hup
          rw [← HPN.out] at hpx
          subst hpx
          have hz5 := HH.out.size
          obtain ⟨u6, y6, e1, e2, e3, e4⟩ := run_append_rows (ty := 22) spRow_len (by omega) under_spans Tryz.info_span (by rfl) (by omega) (OwnRow.below HG3.out hb5) (.slice px pn pc) pg (OwnRow.rd spRow_len hup) (fun a _ => spRow_one a) (by have := HPN.out; have := HPL.out; rw [List.length_take]; omega) (by have := HPN.out; have := HPL.out; rw [List.length_take]; omega) (Nat.le_trans hz5 hb5.size)
          have HRUN := Lib.hid e1
          have hs5 := HH.out.below hb5
          have hs6 := hs5.row (chg_of_grown e3) fun b hb => ⟨(HGX3.out b hb).1, (HGX3.out b hb).2, (OwnRow.lt HG3.out b hb).1⟩
          have hu6 : OwnSp y6 w.heap.size (.slice ux rn uc) rs := OwnRow.chg (OwnRow.below HU3.out hb5) (chg_of_grown e3) fun b hb e => HNE3.out b hb e
          have hg6 : OwnSp y6 w.heap.size u6 (rs.take nx) := by
            have e : rs.take a ++ pg = rs.take nx := by
              rw [HPG.out, ← List.take_add]
              have h8 := HPL.out
              have h7 := HNX.out
              by_cases h9 : st ≤ rn - a
              · rw [show nx = a + st by omega]
              · rw [List.take_of_length_le (by rw [← HRN.out]; omega), List.take_of_length_le (by rw [← HRN.out]; omega)]
            rw [← e]
            exact e2
          have hux6 : ∀ b, (Value.slice ux rn uc).ownBlock = some b → Also X3 y5 y6 b ∧ ¬ H3 b := fun b hb => ⟨.inl (HUX3.out b hb).1, (HUX3.out b hb).2⟩
          have hlt3 := fun b hb => (OwnRow.lt HU3.out b hb).2
          have hgx6 : ∀ b, u6.ownBlock = some b → Also X3 y5 y6 b ∧ ¬ H3 b := fun b hb => by
            rcases e4 with e4 | e4
            · rw [e4] at hb
              exact ⟨.inl (HGX3.out b hb).1, (HGX3.out b hb).2⟩
            · rw [e4] at hb
              injection hb with hb
              have hlt := OwnRow.lt e2 b (by rw [e4, hb])
              exact ⟨.inr ⟨by omega, hlt.2⟩, fun e => by have := (hs5.new b e).2; omega⟩
          have hne6 : ∀ b, (Value.slice ux rn uc).ownBlock = some b → u6.ownBlock ≠ some b := fun b hb e => by
            rcases e4 with e4 | e4
            · rw [e4] at e; exact HNE3.out b hb e
            · rw [e4] at e
              injection e with e
              have h1 := hlt3 b hb
              have h2 := hb5.size
              omega
          have HS6 := Lib.hid hs6
          have HU6 := Lib.hid hu6
          have HG6 := Lib.hid hg6
          have HUX6 := Lib.hid hux6
          have HGX6 := Lib.hid hgx6
          have HNE6 := Lib.hid hne6
          clear hup hb5 e1 e2 e3 e4 hs5 hs6 hu6 hg6 hux6 hgx6 hne6 hlt3
          go_wp2_with (at_builtin; refine Lib.wpList_append_run _ rfl _ _ _ _ rfl _ _ rfl rfl _ _ HRUN.out ?_)
          go_roundw
          case rel => exact ⟨nx, _, H3, rfl, by omega, HS6.out, HU6.out, HG6.out, HUX6.out, HGX6.out, HNE6.out⟩
          case measure => simp [intOf]; omega
        · have hge2 : ¬ (a : Int) < rn := by omega
          have hpn0 : pn = 0 := by have := HPL.out; omega
          subst hpn0
          have hnx2 : nx = a := by have := HNX.out; omega
          subst hnx2
          go_wp2_with fail
          refine HRD.out.mono ?_
          rintro e y5 ⟨up, rfl, hup, hb5⟩
          obtain ⟨px, pc, hpx⟩ := OwnRow.shape hup
          rw [← HPN.out] at hpx
          subst hpx
          have hsm := sameSpans_any _ _ (rs.take nx) rs y5 (OwnRow.rd spRow_len (OwnRow.below HG3.out hb5)) (OwnRow.rd spRow_len (OwnRow.below HU3.out hb5)) (by rw [List.length_take]; omega) (by rw [← HRN.out]; omega)
          rw [sameSp_true (by rw [List.take_of_length_le (by rw [← HRN.out]; omega)])] at hsm
          have HSM := Lib.hid hsm
          have HH5 := Lib.hid (HH.out.below hb5).live.below
          clear hup hb5 hsm
          go_wp2_with fail
          refine HSM.out.mono ?_
          rintro e y6 ⟨rfl, hb6⟩
          have HH6 := Lib.hid (HH5.out.trans (hb6.mono HH5.out.size))
          clear hb6
          go_wp2_with fail
          refine (hdoesEx_any y6 (HE.out.below HH6.out)).mono ?_
          rintro e y7 ⟨rfl, hb7⟩
          have HH7 := Lib.hid (HH6.out.trans (hb7.mono HH6.out.size))
          clear hb7
          go_wp2_with fail
          go_ret
          exact ⟨rfl, HH7.out⟩
theorem walkHostlogBack (x : Value × List Sp.Span) (y : Value × List Bool) (m : Int) (w : World) (h1 : SpansIn w x) (h2 : BoolsIn w y) (hm : 0 ≤ m ∧ m ≤ 255) (he : LEnv w) :
    Calls Tryz.prog 3 #[x.1, y.1, .int .u8 m] w fun e w' => e = .returned (.bool true) ∧ Below w.heap.size w w' := hostlogBack_any x.1 y.1 x.2 y.2 m w h1 h2 hm he
end Go.Proofs.YtiepipcankhdnaaGreatDoor

/- 'HostlogRetain', walked. -/
import Derived.Test.YtiepipcankhdnaaGreatDoorHlCa
namespace Go.Proofs.YtiepipcankhdnaaGreatDoor
set_option linter.unusedSimpArgs false
set_option linter.unusedVariables false
set_option maxRecDepth 100000
open Go.RowKit Go.Maps
open Dsk

set_option maxHeartbeats 16000000 in
theorem hostlogRetain_any (v tv : Value) (l : List Sp.Span) (ts : List Bool) (m : Int) (w : World) (h1 : SpansIn w (v, l)) (h2 : BoolsIn w (tv, ts)) (he : LEnv w) :
    Calls Tryz.prog 5 #[v, tv, .int .i64 m] w fun e w' => e = .returned (.bool true) ∧ Below w.heap.size w w' := by
  obtain ⟨hrd, hlm, hbd⟩ := h1
  obtain ⟨⟨tx, tc, htv, hts⟩, htm⟩ := h2
  simp only at hrd hlm hbd htv hts htm
  obtain ⟨x, c, rfl, hcap, hel⟩ := rdSp_open hrd
  subst htv
  have HEL := Lib.hid hel
  have HBD := Lib.hid hbd
  have HTS := Lib.hid hts
  have HE := Lib.hid he
  obtain ⟨n, hn⟩ : ∃ n, n = l.length := ⟨_, rfl⟩
  obtain ⟨tn, htn⟩ : ∃ tn, tn = ts.length := ⟨_, rfl⟩
  rw [← hn] at hlm ⊢
  rw [← htn] at htm ⊢
  unfold maxLen at hlm htm
  have HN := Lib.hid hn
  have HTN := Lib.hid htn
  clear hrd hbd hts hel he hn htn hcap
  by_cases hbig : 100 < n
  · have hbig2 : (100 : Int) < n := by omega
    go_enter Tryz.func5, Tryz.ntmps5
    go_wp2_with fail
    go_ret
    exact ⟨rfl, Below.refl _ _⟩
  have hbig2 : ¬ (100 : Int) < n := by omega
  go_enter Tryz.func5, Tryz.ntmps5
  go_wp2_with fail
  refine (hopened_any 1048576 (by omega) (by omega) w).mono ?_
  rintro e w1 ⟨bd, j, X, H, rfl, hs⟩
  have HS1 := Lib.hid hs
  clear hs
  go_wp2_with fail
  go_loopw [9] (fun v9 wr => ∃ k : Nat, v9 = .int .i64 k ∧ k ≤ n ∧ CalmAt w wr bd j (mays (l.take k)) (2 * k)) (fun v9 _ => n - (intOf v9).toNat)
  case atStart => exact ⟨0, rfl, Nat.zero_le _, _, _, X, H, HS1.out, calm_new⟩
  case round =>
    obtain ⟨k, rfl, hk, hinv⟩ := hrel
    have HI := Lib.hid hinv
    clear hinv
    by_cases hlt : k < n
    · have hkl : k < l.length := by rw [← HN.out]; exact hlt
      have hlt2 : (k : Int) < n := by omega
      obtain ⟨b, off, hxe, hb, p0, p1, p2, p3, p4, p5, p6, p7⟩ := HEL.out k hkl
      have hbk := HBD.out l[k] (List.getElem_mem hkl)
      have hap := HI.out.app HE.out (by omega) hkl hbk.service hbk.host hbk.note
      obtain ⟨xk, hxk⟩ : ∃ xk, xk = l[k] := ⟨_, rfl⟩
      rw [← hxk] at p0 p1 p2 p3 p4 p5 p6 p7 hap
      obtain ⟨zt, zi, zp, zs, zh, za, zd, zn⟩ := xk
      simp only at p0 p1 p2 p3 p4 p5 p6 p7
      unfold spV at hap
      have HAP := Lib.hid hap
      have q0 := Below.old HI.out.live p0 hb
      have q1 := Below.old HI.out.live p1 hb
      have q2 := Below.old HI.out.live p2 hb
      have q3 := Below.old HI.out.live p3 hb
      have q4 := Below.old HI.out.live p4 hb
      have q5 := Below.old HI.out.live p5 hb
      have q6 := Below.old HI.out.live p6 hb
      have q7 := Below.old HI.out.live p7 hb
      subst hxe
      clear p0 p1 p2 p3 p4 p5 p6 p7 hxk hbk hap
      go_wp2_with fail
      refine HAP.out.mono ?_
      rintro e y3 ⟨rfl, hd3⟩
      have HD3 := Lib.hid hd3
      clear hd3 q0 q1 q2 q3 q4 q5 q6 q7 HAP
      by_cases hkt : k < tn
      · have hktl : k < ts.length := by rw [← HTN.out]; exact hkt
        have hkt2 : (k : Int) < tn := by omega
        obtain ⟨tb, to, htx, htb, htc⟩ := HTS.out k hktl
        have tcell := Below.old HD3.out.live htc htb
        subst htx
        cases htv : ts[k] with
        | false =>
          rw [htv] at tcell
          clear htc htv
          go_wp2_with fail
          go_roundw
          case rel => exact ⟨k + 1, by go_num, by omega, HD3.out.more (by omega)⟩
          case measure => simp [intOf]; omega
        | true =>
          rw [htv] at tcell
          clear htc htv
          have HRT := Lib.hid (HD3.out.rot HE.out (by omega))
          go_wp2_with fail
          all_goals
            refine HRT.out.mono ?_
            rintro e y4 ⟨rfl, hd4⟩
            have HD4 := Lib.hid hd4
            clear hd4 tcell
            go_wp2_with fail
            go_roundw
            case rel => exact ⟨k + 1, by go_num, by omega, HD4.out.more (by omega)⟩
            case measure => simp [intOf]; omega
      · have hkt2 : ¬ (k : Int) < tn := by omega
        go_wp2_with fail
        go_roundw
        case rel => exact ⟨k + 1, by go_num, by omega, HD3.out.more (by omega)⟩
        case measure => simp [intOf]; omega
    · obtain rfl : k = n := by omega
      have hge : ¬ (k : Int) < k := by omega
      have hc := HI.out
      rw [List.take_of_length_le (by rw [← HN.out]; exact Nat.le_refl _)] at hc
      obtain ⟨rs, hrs⟩ : ∃ rs, rs = mays l := ⟨_, rfl⟩
      rw [← hrs] at hc
      obtain ⟨rn, hrn⟩ : ∃ rn, rn = rs.length := ⟨_, rfl⟩
      have hr100 : rn ≤ 100 := by have := mays_len l; rw [← hrs, ← hrn, ← HN.out] at this; omega
      have HRN := Lib.hid hrn
      have HSY := Lib.hid (hc.sync HE.out (by omega))
      clear hc hrs hrn HI
      go_wp2_with fail
      refine HSY.out.mono ?_
      rintro e y1 ⟨rfl, d, h, X1, H1, hs1, hcd⟩
      have HC := Lib.hid hcd
      have HS1 := Lib.hid hs1
      have hmc := hcd.many
      obtain ⟨mc, hmcd⟩ : ∃ mc, mc = h.l.length := ⟨_, rfl⟩
      rw [← hmcd] at hmc
      have hal := hcd.left.all hs1 HE.out (by rw [← hmcd]; omega) (by rw [← HRN.out]; omega)
      rw [List.drop_zero] at hal
      have HAL := Lib.hid hal
      have HMC := Lib.hid hmcd
      clear hs1 hcd hal hmcd HSY
      go_wp2_with fail
      refine HAL.out.mono ?_
      rintro e y2 ⟨u2, rfl, hu2, hb2⟩
      obtain ⟨ux, uc, hux⟩ := OwnRow.shape hu2
      rw [← HRN.out] at hux
      subst hux
      have hs2 := HS1.out.row (Chg.of_below (S := fun _ => False) hb2) fun b e => e.elim
      have HS2 := Lib.hid hs2
      have HU2 := Lib.hid hu2
      have HUX := Lib.hid (show ∀ b, (Value.slice ux rn uc).ownBlock = some b → Also X1 y1 y2 b ∧ ¬ H1 b from fun b hb => by
        have hlt := OwnRow.lt hu2 b hb
        exact ⟨.inr hlt, fun e => by have := (HS1.out.new b e).2; omega⟩)
      have HSG := Lib.hid (hsegments_any hs2 (HC.out.bnd (by omega)).many)
      rw [if_pos HC.out.runs, ← HMC.out] at HSG
      clear hs2 hu2 hb2 HAL
      go_wp2_with fail
      refine HSG.out.mono ?_
      rintro e y3 ⟨rfl, hb3⟩
      have hen := hendn_any (HS2.out.below hb3) (HC.out.bnd (by omega)).many (by rw [HC.out.next, ← HRN.out]; omega)
      rw [if_pos HC.out.runs, HC.out.next, ← HRN.out] at hen
      have HEN := Lib.hid hen
      have HS3 := Lib.hid (HS2.out.below hb3)
      have HU3 := Lib.hid (OwnRow.below HU2.out hb3)
      clear hb3 hen HSG
      go_wp2_with fail
      refine HEN.out.mono ?_
      rintro e y4 ⟨rfl, hb4⟩
      have HS4 := Lib.hid (HS3.out.below hb4)
      have HU4 := Lib.hid (OwnRow.below HU3.out hb4)
      have HRT := Lib.hid (hretain_any HS4.out HC.out.runs HE.out (HC.out.bnd (by omega)) m)
      clear hb4 HEN
      by_cases hm1 : m < 1
      · have hrp : retP m d h = (2, h, d) := by unfold retP; rw [if_pos hm1]
        rw [hrp] at HRT
        clear hrp
        go_wp2_with fail
        refine HRT.out.mono ?_
        rintro e y5 ⟨rfl, N5, hN5, hs5, hK5⟩
        have HS5 := Lib.hid hs5
        have hal := HC.out.left.all hs5 HE.out (by rw [← HMC.out]; omega) (by rw [← HRN.out]; omega)
        have HAL := Lib.hid hal
        clear hN5 hs5 hK5 hal HRT
        go_wp2_with fail
        refine HAL.out.mono ?_
        rintro e y6 ⟨u6, rfl, hu6, hb6⟩
        have hsg := hsegments_any (HS5.out.below hb6) (HC.out.bnd (by omega)).many
        rw [if_pos HC.out.runs, ← HMC.out] at hsg
        have HSG := Lib.hid hsg
        have HS6 := Lib.hid (HS5.out.below hb6)
        clear hu6 hb6 hsg HAL
        go_wp2_with fail
        refine HSG.out.mono ?_
        rintro e y7 ⟨rfl, hb7⟩
        have HB7 := Lib.hid (HS6.out.below hb7).live.below
        clear hb7 HSG
        go_wp2_with fail
        refine (hdoesEx_any y7 (HE.out.below HB7.out)).mono ?_
        rintro e y8 ⟨rfl, hb8⟩
        have HB8 := Lib.hid (HB7.out.trans (hb8.mono HB7.out.size))
        clear hb8
        go_wp2_with fail
        go_ret
        exact ⟨rfl, HB8.out⟩
      · have hm2 : ¬ m < 1 := hm1
        obtain ⟨e0, f, hlf⟩ := HC.out.ret m (by omega)
        rw [e0] at HRT
        obtain ⟨d2, hd2⟩ : ∃ d2, d2 = (retP m d h).2.2 := ⟨_, rfl⟩
        obtain ⟨h2, hh2⟩ : ∃ h2, h2 = (retP m d h).2.1 := ⟨_, rfl⟩
        rw [← hd2, ← hh2] at HRT hlf
        obtain ⟨mm, hmm⟩ : ∃ mm, mm = min m.toNat mc := ⟨_, rfl⟩
        rw [← HMC.out, ← hmm] at hlf
        have hmm1 : min m (mc : Int) = (mm : Int) := by omega
        have hfle := hlf.le
        rw [← HRN.out] at hfle
        have hmm2 : mm ≤ 1000 := by omega
        have HL := Lib.hid hlf
        clear e0 hlf hd2 hh2 hmm
        go_wp2_with fail
        refine HRT.out.mono ?_
        rintro e y5 ⟨rfl, N5, hN5, hs5, hK5⟩
        have HS5 := Lib.hid hs5
        have HU5 := Lib.hid (OwnRow.chg HU4.out hK5 fun b hb e => e.elim (fun e => e (HUX.out b hb).1) (HUX.out b hb).2)
        have hal := HL.out.all hs5 HE.out (by omega) (by rw [← HRN.out]; omega)
        have HAL := Lib.hid hal
        clear hN5 hs5 hK5 hal HRT
        go_wp2_with fail
        refine HAL.out.mono ?_
        rintro e y6 ⟨u6, rfl, hu6, hb6⟩
        obtain ⟨vx, vc, hvx⟩ := OwnRow.shape hu6
        rw [List.length_drop, ← HRN.out] at hvx
        subst hvx
        have hfi := hfirst_any (HS5.out.below hb6) (HL.out.bnd (by omega) (by rw [← HRN.out]; omega)).many
        rw [if_pos HL.out.runs, HL.out.first] at hfi
        have HFI := Lib.hid hfi
        have HS6 := Lib.hid (HS5.out.below hb6)
        have HU6 := Lib.hid (OwnRow.below HU5.out hb6)
        have HV6 := Lib.hid hu6
        clear hu6 hb6 hfi HAL
        go_wp2_with fail
        refine HFI.out.mono ?_
        rintro e y7 ⟨rfl, hb7⟩
        have HS7 := Lib.hid (HS6.out.below hb7)
        have HU7 := Lib.hid (OwnRow.below HU6.out hb7)
        have HV7 := Lib.hid (OwnRow.below HV6.out hb7)
        have hrd := hread_any HS7.out (HE.out.below HS7.out.live.below) (HL.out.bnd (by omega) (by rw [← HRN.out]; omega)) ((f : Int) - 1) 1 (Nat.le_trans (HL.out.num (by rw [← HRN.out]; omega)) (by omega)) (by rw [HL.out.sure, ← HRN.out]; omega)
        unfold ReadPost at hrd
        rw [HL.out.read_ahead] at hrd
        have HRD := Lib.hid hrd
        have hfw : IntKind.i64.wrap ((f : Int) - 1) = (f : Int) - 1 := by rw [IntKind.wrap_i64]; omega
        clear hb7 hrd HFI
        go_wp2_with fail
        refine HRD.out.mono ?_
        rintro e y8 ⟨u8, rfl, hu8, hb8⟩
        have HS8 := Lib.hid (HS7.out.below hb8)
        have HU8 := Lib.hid (OwnRow.below HU7.out hb8)
        have HV8 := Lib.hid (OwnRow.below HV7.out hb8)
        have HSG := Lib.hid (fun (W : World) (hW : Below y8.heap.size y8 W) => hsegments_any (HS8.out.below hW) (HL.out.bnd (by omega) (by rw [← HRN.out]; omega)).many)
        rw [if_pos HL.out.runs, HL.out.many] at HSG
        have HNM := Lib.hid (fun (W : World) (hW : Below y8.heap.size y8 W) => (HS8.out.below hW).live.names)
        have HEN := Lib.hid (fun (W : World) (hW : Below y8.heap.size y8 W) => hendn_any (HS8.out.below hW) (HL.out.bnd (by omega) (by rw [← HRN.out]; omega)).many (by rw [HL.out.next, ← HRN.out]; omega))
        rw [if_pos HL.out.runs, HL.out.next, ← HRN.out] at HEN
        have HSU := Lib.hid (fun (W : World) (hW : Below y8.heap.size y8 W) => hsure_any (HS8.out.below hW) (HE.out.below (HS8.out.below hW).live.below) (HL.out.bnd (by omega) (by rw [← HRN.out]; omega)))
        rw [if_pos HL.out.runs, HL.out.sure, ← HRN.out] at HSU
        clear hu8 hb8 HRD
        go_wp2_with fail
        refine (HSG.out y8 (Below.refl _ _)).mono ?_
        rintro e z1 ⟨rfl, hb⟩
        have HB1 := Lib.hid hb
        clear hb
        go_wp2_with fail
        refine (HNM.out z1 HB1.out).mono ?_
        rintro e z2 ⟨un, rfl, hun, hb⟩
        obtain ⟨nx, nc, hnx, _⟩ := OwnS.each hun
        have hnl : (strs (names d2.files)).length = mm := by unfold strs; rw [List.length_map]; exact HL.out.names
        rw [hnl] at hnx
        subst hnx
        have HB2 := Lib.hid (HB1.out.trans (hb.mono HB1.out.size))
        clear hb hun hnl
        go_wp2_with fail
        refine (HSG.out z2 HB2.out).mono ?_
        rintro e z3 ⟨rfl, hb⟩
        have HB3 := Lib.hid (HB2.out.trans (hb.mono HB2.out.size))
        clear hb
        go_wp2_with fail
        refine (HEN.out z3 HB3.out).mono ?_
        rintro e z4 ⟨rfl, hb⟩
        have HB4 := Lib.hid (HB3.out.trans (hb.mono HB3.out.size))
        clear hb
        go_wp2_with fail
        refine (HSU.out z4 HB4.out).mono ?_
        rintro e z5 ⟨rfl, hb⟩
        have HB5 := Lib.hid (HB4.out.trans (hb.mono HB4.out.size))
        clear hb
        have hfr : (rn : Int) ≥ f := by omega
        have hu9 := OwnRow.below HU8.out HB5.out
        rw [HRN.out] at hu9
        have hfle9 : f ≤ rs.length := by rw [← HRN.out]; exact hfle
        have hv9 := OwnRow.rd spRow_len (OwnRow.below HV8.out HB5.out)
        have hl9 : (rs.drop f).length ≤ 1000000000 := by rw [List.length_drop, ← HRN.out]; omega
        have hp := rdSp_dropO hu9 hfle9
        have hq := fun e : uc = f => rdSp_dropE hu9 hfle9 e
        rw [← HRN.out] at hp hq
        have hsa := sameSpans_any _ _ (rs.drop f) (rs.drop f) z5 hv9 hp hl9 hl9
        have hsb := fun e => sameSpans_any _ _ (rs.drop f) (rs.drop f) z5 hv9 (hq e) hl9 hl9
        rw [sameSp_true rfl] at hsa hsb
        have HSA := Lib.hid hsa
        have HSB := Lib.hid hsb
        clear hu9 hfle9 hv9 hl9 hp hq hsa hsb
        by_cases huc : uc = f
        · have HSC := Lib.hid (HSB.out huc)
          clear HSA HSB
          go_wp2_with fail
          all_goals
            refine HSC.out.mono ?_
            rintro e z6 ⟨rfl, hb⟩
            have HB6 := Lib.hid (HS8.out.below (HB5.out.trans (hb.mono HB5.out.size))).live.below
            clear hb
            go_wp2_with fail
            refine (hdoesEx_any z6 (HE.out.below HB6.out)).mono ?_
            rintro e z7 ⟨rfl, hb7⟩
            have HB7 := Lib.hid (HB6.out.trans (hb7.mono HB6.out.size))
            clear hb7
            go_wp2_with fail
            go_ret
            exact ⟨rfl, HB7.out⟩
        · clear HSB
          go_wp2_with fail
          all_goals
            refine HSA.out.mono ?_
            rintro e z6 ⟨rfl, hb⟩
            have HB6 := Lib.hid (HS8.out.below (HB5.out.trans (hb.mono HB5.out.size))).live.below
            clear hb
            go_wp2_with fail
            refine (hdoesEx_any z6 (HE.out.below HB6.out)).mono ?_
            rintro e z7 ⟨rfl, hb7⟩
            have HB7 := Lib.hid (HB6.out.trans (hb7.mono HB6.out.size))
            clear hb7
            go_wp2_with fail
            go_ret
            exact ⟨rfl, HB7.out⟩
theorem walkHostlogRetain (x : Value × List Sp.Span) (y : Value × List Bool) (m : Int) (w : World) (h1 : SpansIn w x) (h2 : BoolsIn w y) (_ : -9223372036854775808 ≤ m ∧ m ≤ 9223372036854775807) (he : LEnv w) :
    Calls Tryz.prog 5 #[x.1, y.1, .int .i64 m] w fun e w' => e = .returned (.bool true) ∧ Below w.heap.size w w' := hostlogRetain_any x.1 y.1 x.2 y.2 m w h1 h2 he
end Go.Proofs.YtiepipcankhdnaaGreatDoor

/- States as bytes, and back, walked. -/
import Derived.Test.YtenbgfejonokdaaEdBackP
import Derived.Test.YtenbgfejonokdaaEdOpen
import Derived.Test.YtenbgfejonokdaaEdLives
import Derived.Test.YtenbgfejonokdaaEdSame
import Derived.Test.YtenbgfejonokdaaEdDec
namespace Go.Proofs.Ytenbgfejonokdaa
set_option linter.unusedSimpArgs false
set_option linter.unusedVariables false
set_option maxRecDepth 100000
open Go.RowKit
attribute [local go_sem ↓] Go.wp_at_zero Go.wp_at_succ

theorem sameB_self' (s : Ed.St) : sameB s s = true := by unfold sameB; simp
set_option maxHeartbeats 8000000 in
theorem walkEditsBack (x : Value × List Ed.Edit) (s : ByteArray) (w : World) (h1 : EdsIn w x) (h2 : s.size ≤ maxLen) :
    Calls Try.prog 14 #[x.1, .string s] w fun e w' => e = .returned (.bool true) ∧ Below w.heap.size w w' := by
  obtain ⟨lv, l⟩ := x
  obtain ⟨hl, hlm, hbd⟩ := h1
  simp only at hl hlm hbd ⊢
  obtain ⟨lx, lc, rfl, _⟩ := id hl
  have HL := Lib.hid hl
  have HBD' := Lib.hid hbd
  have HBY := Lib.hid (beyond_any _ l 40 w hl hlm (fun j hj => ⟨(hbd j hj).files, (hbd j hj).key⟩))
  obtain ⟨n, hn⟩ : ∃ n, n = l.length := ⟨_, rfl⟩
  rw [← hn] at hlm HL HBY ⊢
  have Hn := Lib.hid hn
  unfold maxLen at h2 hlm
  clear hl hbd hn
  go_enter Try.func14, Try.ntmps14
  go_wp2_with fail
  refine HBY.out.mono ?_
  rintro e w0 ⟨⟨b, rfl, hsm⟩, rfl⟩
  have HSM := Lib.hid hsm
  clear hsm
  by_cases hb1 : b = 1
  · subst hb1
    go_wp2_with fail
    refine (lives_any w).mono ?_
    rintro e w1 ⟨rfl, hb⟩
    go_wp2_with fail
    go_ret
    exact ⟨rfl, hb⟩
  have hbf : (b == 1) = false := beq_eq_false_iff_ne.2 hb1
  rw [hbf]
  have HS := Lib.hid (HSM.out hb1)
  clear hb1 hbf
  by_cases hk200 : 300 < s.size
  · have hk2 : (300 : Int) < s.size := by omega
    go_wp2_with fail
    refine (lives_any w).mono ?_
    rintro e w1 ⟨rfl, hb⟩
    go_wp2_with fail
    go_ret
    exact ⟨rfl, hb⟩
  have hk2 : ¬ (300 : Int) < s.size := by omega
  have hs3 : s.size ≤ 300 := by omega
  have hll : n ≤ 1000 := by have := HS.out.1; rw [← Hn.out] at this; omega
  have HBE := Lib.hid (behind_any (.slice lx n lc) l w HL.out (by rw [← Hn.out]; exact hll) (fun j hj => (HBD'.out j hj).ok (HS.out.2 j hj).1))
  obtain ⟨st, hst⟩ : ∃ st, st = behindP l := ⟨_, rfl⟩
  rw [← hst] at HBE
  have Hv := Lib.hid (show Ed.Valid st by rw [hst]; exact behind_valid l)
  have HSZ := Lib.hid (encSB_size Hv.out)
  have HONE := Lib.hid (back_one Hv.out)
  have HTWO := Lib.hid (back_two Hv.out)
  have HES := Lib.hid (fun (tv : Value) (W : World) (h : RdT W tv st.l) => encodeState_any tv st W h (valid_fits Hv.out))
  rw [encRes_valid Hv.out] at HES
  obtain ⟨X, hX⟩ : ∃ X, X = encSB st := ⟨_, rfl⟩
  rw [← hX] at HES HSZ HONE HTWO
  have HDX := Lib.hid (fun W => decodeState_any X W (by have := HSZ.out; omega))
  have HXX := Lib.hid hX
  obtain ⟨Y, hY⟩ : ∃ Y, Y = X ++ ⟨#[0]⟩ := ⟨_, rfl⟩
  have HDY := Lib.hid (fun W => decodeState_any Y W (by rw [hY, ByteArray.size_append]; have := HSZ.out; have : (⟨#[0]⟩ : ByteArray).size = 1 := rfl; omega))
  have HYY := Lib.hid (HTWO.out Y hY)
  have HDS := Lib.hid (fun W => decodeState_any s W (by omega))
  have HDE := Lib.hid (fun W => decode_ed s W (by omega) (decE_fit hs3))
  have HFT := Lib.hid (fun out h => decE_fit hs3 out h)
  obtain ⟨sl, log, next⟩ := st
  have HY := Lib.hid hY
  clear hst hX hY hs3
  go_wp2_with fail
  refine HBE.out.mono ?_
  rintro e w2 ⟨tv, rfl, hrd, hb2⟩
  obtain ⟨tx, tc, rfl, _⟩ := hrd.rd
  have HB2 := Lib.hid hb2
  have HR2 := Lib.hid hrd.rd
  obtain ⟨m, hm⟩ : ∃ m, m = sl.length := ⟨_, rfl⟩
  try simp only at HR2 ⊢
  rw [← hm] at HR2 ⊢
  have HM := Lib.hid hm
  unfold stV at HES ⊢
  try simp only at HES
  clear hrd hb2 hm
  obtain ⟨w3, hw3⟩ : ∃ w3, w3 = w2.alloc (.cells #[.slice tx m tc, .int .i64 log, .int .i64 next] 67 (0, 0)) := ⟨_, rfl⟩
  obtain ⟨kb, kbe⟩ := three_cells w3 hw3
  obtain ⟨b3, hb3⟩ : ∃ b3, b3 = w2.heap.size := ⟨_, rfl⟩
  have K3 := Lib.hid kb
  rw [← hb3] at K3
  have HB3 := Lib.hid (HB2.out.trans (kbe.mono HB2.out.size))
  have HR3 := Lib.hid (HR2.out.below kbe)
  have HE3 := Lib.hid (HES.out _ w3 HR3.out)
  obtain ⟨a0, a1, a2, _⟩ := blk3 kb
  rw [hw3] at a0 a1 a2 HE3
  have HW3 := Lib.hid hw3
  have HQ3 := Lib.hid hb3
  clear hw3 hb3 kb kbe
  go_wp2_with fail
  refine HE3.out.mono ?_
  rintro e w4 ⟨rfl, hb4⟩
  rw [← HW3.out] at hb4
  have K4 := Lib.hid (K3.out.below hb4)
  have HB4 := Lib.hid (HB3.out.trans (hb4.mono HB3.out.size))
  have HR4 := Lib.hid (HR3.out.below hb4)
  rw [← HQ3.out]
  clear hb4 a0 a1 a2
  go_wp2_with fail
  refine (HDX.out w4).mono ?_
  rintro e w5 ⟨hb5, hcase⟩
  rcases hcase with ⟨uv, ut, rfl, hur, huf, hud, huv, hue⟩ | ⟨_, hno⟩
  case inr => exact absurd ⟨_, HONE.out, Hv.out, HXX.out.symm⟩ hno
  rw [HONE.out] at hud
  injection hud with hud
  injection hud with hud _
  subst hud
  obtain ⟨ux, uc, rfl, _⟩ := id hur
  try simp only at hur ⊢
  rw [← HM.out] at hur ⊢
  have K5 := Lib.hid (K4.out.below hb5)
  have HB5 := Lib.hid (HB4.out.trans (hb5.mono HB4.out.size))
  have HR5 := Lib.hid (HR4.out.below hb5)
  have HU5 := Lib.hid hur
  clear hb5 hur huf huv hue
  unfold stV
  obtain ⟨w6, hw6⟩ : ∃ w6, w6 = w5.alloc (.cells #[.slice ux m uc, .int .i64 log, .int .i64 next] 67 (0, 0)) := ⟨_, rfl⟩
  obtain ⟨q6, hq6⟩ : ∃ q6, q6 = w5.heap.size := ⟨_, rfl⟩
  obtain ⟨kb, kbe⟩ := three_cells w6 hw6
  have KU6 := Lib.hid kb
  rw [← hq6] at KU6
  have K6 := Lib.hid (K5.out.below kbe)
  have HB6 := Lib.hid (HB5.out.trans (kbe.mono HB5.out.size))
  have HR6 := Lib.hid (HR5.out.below kbe)
  have HU6 := Lib.hid (HU5.out.below kbe)
  have HW6 := Lib.hid hw6
  have HQ6 := Lib.hid hq6
  clear hw6 hq6 kb kbe
  have hXs := HSZ.out
  go_wp2_with fail
  rw [← HW6.out, ← HQ6.out, ← HY.out]
  refine (HDY.out w6).mono ?_
  rintro e w7 ⟨hb7, hcase⟩
  rcases hcase with ⟨_, t, _, _, _, g1, g2, g3⟩ | ⟨rfl, _⟩
  case inl => exact absurd ⟨t, g1, g2, g3⟩ HYY.out
  have K7 := Lib.hid (K6.out.below hb7)
  have KU7 := Lib.hid (KU6.out.below hb7)
  have HB7 := Lib.hid (HB6.out.trans (hb7.mono HB6.out.size))
  have HR7 := Lib.hid (HR6.out.below hb7)
  have HU7 := Lib.hid (HU6.out.below hb7)
  clear hb7
  unfold stV
  obtain ⟨w8, hw8⟩ : ∃ w8, w8 = w7.alloc (.cells #[.slice none 0 0, .int .i64 0, .int .i64 0] 67 (0, 0)) := ⟨_, rfl⟩
  obtain ⟨kb, kbe⟩ := three_cells w8 hw8
  obtain ⟨a0, a1, a2, _⟩ := blk3 (K7.out.below kbe)
  obtain ⟨g0, g1, g2, _⟩ := blk3 (KU7.out.below kbe)
  have HB8 := Lib.hid (HB7.out.trans (kbe.mono HB7.out.size))
  have HSS := Lib.hid (sameState_any (.slice tx m tc) (.slice ux m uc) ⟨sl, log, next⟩ ⟨sl, log, next⟩ w8 (HR7.out.below kbe) (HU7.out.below kbe) (valid_fits Hv.out) (valid_fits Hv.out))
  rw [sameB_self'] at HSS
  unfold stV at HSS
  try simp only at HSS
  rw [hw8] at a0 a1 a2 g0 g1 g2 HSS
  have HW8 := Lib.hid hw8
  clear hw8 kb kbe
  go_wp2_with fail
  refine HSS.out.mono ?_
  rintro e wc ⟨rfl, hbc⟩
  rw [← HW8.out] at hbc
  have HBC := Lib.hid (HB8.out.trans (hbc.mono HB8.out.size))
  clear a0 a1 a2 g0 g1 g2 hbc
  go_wp2_with fail
  refine (HDE.out wc).mono ?_
  rintro e wd ⟨hbd, hcase⟩
  have HBD := Lib.hid (HBC.out.trans (hbd.mono HBC.out.size))
  clear hbd
  rcases hcase with ⟨v, out, rfl, hrd, hde, heq⟩ | ⟨rfl, _⟩
  · obtain ⟨f1, f2⟩ := HFT.out out hde
    have HEN := Lib.hid (encode_ed v out wd hrd f1 f2)
    rw [heq] at HEN
    obtain ⟨ox, oc, rfl, _⟩ := id hrd
    clear f1 f2 hde heq hrd
    go_wp2_with fail
    refine HEN.out.mono ?_
    rintro e we ⟨rfl, hbe⟩
    have HBE' := Lib.hid (HBD.out.trans (hbe.mono HBD.out.size))
    clear hbe HBD HBE HEN
    obtain ⟨wd, hwd⟩ : ∃ wd', wd' = we := ⟨_, rfl⟩
    rw [← hwd] at HBE'
    have HBD := Lib.hid HBE'.out
    subst hwd
    go_wp2_with fail
    refine (HDS.out wd).mono ?_
    rintro e wf ⟨hbf, hcase⟩
    have HBF := Lib.hid (HBD.out.trans (hbf.mono HBD.out.size))
    clear hbf
    rcases hcase with ⟨yv, yt, rfl, hyr, hyf, _, hyv, hye⟩ | ⟨rfl, _⟩
    · obtain ⟨yl, ylog, ynext⟩ := yt
      obtain ⟨yx, yc, rfl, _⟩ := id hyr
      try simp only at hyr hyf ⊢
      unfold stV
      obtain ⟨wg, hwg⟩ : ∃ wg, wg = wf.alloc (.cells #[.slice yx yl.length yc, .int .i64 ylog, .int .i64 ynext] 67 (0, 0)) := ⟨_, rfl⟩
      obtain ⟨gb, gbe⟩ := three_cells wg hwg
      have HG := Lib.hid gb
      have HBG := Lib.hid (HBF.out.trans (gbe.mono HBF.out.size))
      have HEY := Lib.hid (encodeState_any (.slice yx yl.length yc) ⟨yl, ylog, ynext⟩ wg (hyr.below gbe) hyf)
      have HRG := Lib.hid (hyr.below gbe)
      rw [encRes_valid hyv, hye] at HEY
      unfold stV at HEY
      try simp only at HEY
      have HYV := Lib.hid hyv
      have HYF := Lib.hid hyf
      obtain ⟨u0, u1, u2, _⟩ := blk3 gb
      have HWG := Lib.hid hwg
      rw [hwg] at u0 u1 u2 HEY
      clear hwg gb gbe hyr hyf hyv hye
      go_wp2_with fail
      refine HEY.out.mono ?_
      rintro e wh ⟨rfl, hbh⟩
      rw [← HWG.out] at hbh
      have HBH := Lib.hid (HBG.out.trans (hbh.mono HBG.out.size))
      obtain ⟨v0, v1, v2, _⟩ := blk3 (HG.out.below hbh)
      have HCK := Lib.hid (check_any (.slice yx yl.length yc) ⟨yl, ylog, ynext⟩ wh (HRG.out.below hbh) HYF.out)
      rw [Ed.validB_true HYV.out] at HCK
      unfold stV at HCK
      try simp only at HCK
      clear u0 u1 u2 hbh
      go_wp2_with fail
      refine HCK.out.mono ?_
      rintro e wz ⟨rfl, hbz⟩
      have HBZ := Lib.hid (HBH.out.trans (hbz.mono HBH.out.size))
      clear v0 v1 v2 hbz
      go_wp2_with fail
      refine (lives_any wz).mono ?_
      rintro e w9 ⟨rfl, hb9⟩
      go_wp2_with fail
      go_ret
      exact ⟨rfl, HBZ.out.trans (hb9.mono HBZ.out.size)⟩
    · unfold stV
      obtain ⟨wz, hwz⟩ : ∃ wz, wz = wf.alloc (.cells #[.slice none 0 0, .int .i64 0, .int .i64 0] 67 (0, 0)) := ⟨_, rfl⟩
      obtain ⟨gb, gbe⟩ := three_cells wz hwz
      have HBZ := Lib.hid (HBF.out.trans (gbe.mono HBF.out.size))
      obtain ⟨u0, u1, u2, _⟩ := blk3 gb
      rw [hwz] at u0 u1 u2
      have HWZ := Lib.hid hwz
      clear hwz gb gbe
      go_wp2_with fail
      rw [← HWZ.out]
      clear u0 u1 u2
      refine (lives_any wz).mono ?_
      rintro e w9 ⟨rfl, hb9⟩
      go_wp2_with fail
      go_ret
      exact ⟨rfl, HBZ.out.trans (hb9.mono HBZ.out.size)⟩
  · go_wp2_with fail
    refine (HDS.out wd).mono ?_
    rintro e wf ⟨hbf, hcase⟩
    have HBF := Lib.hid (HBD.out.trans (hbf.mono HBD.out.size))
    clear hbf
    rcases hcase with ⟨yv, yt, rfl, hyr, hyf, _, hyv, hye⟩ | ⟨rfl, _⟩
    · obtain ⟨yl, ylog, ynext⟩ := yt
      obtain ⟨yx, yc, rfl, _⟩ := id hyr
      try simp only at hyr hyf ⊢
      unfold stV
      obtain ⟨wg, hwg⟩ : ∃ wg, wg = wf.alloc (.cells #[.slice yx yl.length yc, .int .i64 ylog, .int .i64 ynext] 67 (0, 0)) := ⟨_, rfl⟩
      obtain ⟨gb, gbe⟩ := three_cells wg hwg
      have HG := Lib.hid gb
      have HBG := Lib.hid (HBF.out.trans (gbe.mono HBF.out.size))
      have HEY := Lib.hid (encodeState_any (.slice yx yl.length yc) ⟨yl, ylog, ynext⟩ wg (hyr.below gbe) hyf)
      have HRG := Lib.hid (hyr.below gbe)
      rw [encRes_valid hyv, hye] at HEY
      unfold stV at HEY
      try simp only at HEY
      have HYV := Lib.hid hyv
      have HYF := Lib.hid hyf
      obtain ⟨u0, u1, u2, _⟩ := blk3 gb
      have HWG := Lib.hid hwg
      rw [hwg] at u0 u1 u2 HEY
      clear hwg gb gbe hyr hyf hyv hye
      go_wp2_with fail
      refine HEY.out.mono ?_
      rintro e wh ⟨rfl, hbh⟩
      rw [← HWG.out] at hbh
      have HBH := Lib.hid (HBG.out.trans (hbh.mono HBG.out.size))
      obtain ⟨v0, v1, v2, _⟩ := blk3 (HG.out.below hbh)
      have HCK := Lib.hid (check_any (.slice yx yl.length yc) ⟨yl, ylog, ynext⟩ wh (HRG.out.below hbh) HYF.out)
      rw [Ed.validB_true HYV.out] at HCK
      unfold stV at HCK
      try simp only at HCK
      clear u0 u1 u2 hbh
      go_wp2_with fail
      refine HCK.out.mono ?_
      rintro e wz ⟨rfl, hbz⟩
      have HBZ := Lib.hid (HBH.out.trans (hbz.mono HBH.out.size))
      clear v0 v1 v2 hbz
      go_wp2_with fail
      refine (lives_any wz).mono ?_
      rintro e w9 ⟨rfl, hb9⟩
      go_wp2_with fail
      go_ret
      exact ⟨rfl, HBZ.out.trans (hb9.mono HBZ.out.size)⟩
    · unfold stV
      obtain ⟨wz, hwz⟩ : ∃ wz, wz = wf.alloc (.cells #[.slice none 0 0, .int .i64 0, .int .i64 0] 67 (0, 0)) := ⟨_, rfl⟩
      obtain ⟨gb, gbe⟩ := three_cells wz hwz
      have HBZ := Lib.hid (HBF.out.trans (gbe.mono HBF.out.size))
      obtain ⟨u0, u1, u2, _⟩ := blk3 gb
      rw [hwz] at u0 u1 u2
      have HWZ := Lib.hid hwz
      clear hwz gb gbe
      go_wp2_with fail
      rw [← HWZ.out]
      clear u0 u1 u2
      refine (lives_any wz).mono ?_
      rintro e w9 ⟨rfl, hb9⟩
      go_wp2_with fail
      go_ret
      exact ⟨rfl, HBZ.out.trans (hb9.mono HBZ.out.size)⟩
end Go.Proofs.Ytenbgfejonokdaa

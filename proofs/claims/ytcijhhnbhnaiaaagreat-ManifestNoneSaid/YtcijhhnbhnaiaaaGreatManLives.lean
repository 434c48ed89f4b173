/- The chapter's manifest, walked. -/
import Derived.Test.YtcijhhnbhnaiaaaGreatManB
import Derived.Test.YtcijhhnbhnaiaaaGreatManP
namespace Go.Proofs.YtcijhhnbhnaiaaaGreat
set_option linter.unusedSimpArgs false
set_option linter.unusedVariables false
set_option maxRecDepth 100000
open Go.RowKit Go.Maps
open Dsk
attribute [local go_sem ↓] Go.wp_at_zero Go.wp_at_succ

theorem rdE_lit1 {w : World} {b : Nat} (h : Blk w b 44 #[.int .i64 1, .int .i64 0, .int .i64 5, .slice none 0 0, .string ⟨#[]⟩]) : RdE w (.slice (some ⟨b, 0, none⟩) 1 1) [e1] := by
  refine ⟨_, 1, rfl, fun j hj => ?_⟩
  obtain rfl : j = 0 := by simp at hj; omega
  exact ⟨b, 0, .slice none 0 0, rfl, h.lt, h.cell 0, h.cell 1, h.cell 2, h.cell 3, h.cell 4, .inl ⟨none, 0, rfl, rfl⟩⟩
theorem rdE_lit2 {w : World} {b : Nat} (h : Blk w b 44 #[.int .i64 1, .int .i64 0, .int .i64 5, .slice none 0 0, .string ⟨#[]⟩, .int .i64 3, .int .i64 0, .int .i64 0, .slice none 0 0, .string ⟨#[109]⟩]) : RdE w (.slice (some ⟨b, 0, none⟩) 2 2) [e1, e2] := by
  refine ⟨_, 2, rfl, fun j hj => ?_⟩
  rcases (show j = 0 ∨ j = 1 by simp at hj; omega) with rfl | rfl
  · exact ⟨b, 0, .slice none 0 0, rfl, h.lt, h.cell 0, h.cell 1, h.cell 2, h.cell 3, h.cell 4, .inl ⟨none, 0, rfl, rfl⟩⟩
  · exact ⟨b, 0, .slice none 0 0, rfl, h.lt, h.cell 5, h.cell 6, h.cell 7, h.cell 8, h.cell 9, .inl ⟨none, 0, rfl, rfl⟩⟩
theorem edOk_e1 : EdOk e1 := ⟨by decide, by show (⟨#[]⟩ : ByteArray).size ≤ maxLen; unfold maxLen; decide, by decide⟩
theorem edOk_e2 : EdOk e2 := ⟨by decide, by show (⟨#[109]⟩ : ByteArray).size ≤ maxLen; unfold maxLen; decide, by decide⟩
theorem encFit_e1 : EncFit e1 := ⟨by decide, by decide, by decide, by decide, by simp [e1], by show (⟨#[]⟩ : ByteArray).size ≤ 1000; decide⟩
theorem encFit_e2 : EncFit e2 := ⟨by decide, by decide, by decide, by decide, by simp [e2], by show (⟨#[109]⟩ : ByteArray).size ≤ 1000; decide⟩
theorem oks2 : ∀ (j : Nat) (hj : j < [e1, e2].length), EdOk [e1, e2][j] := fun j hj => by
  rcases (show j = 0 ∨ j = 1 by simp at hj; omega) with rfl | rfl
  · exact edOk_e1
  · exact edOk_e2
theorem oks1 : ∀ (j : Nat) (hj : j < [e1].length), EdOk [e1][j] := fun j hj => by
  obtain rfl : j = 0 := by simp at hj; omega
  exact edOk_e1
theorem fits2 : ∀ e ∈ [e1, e2], EncFit e := fun e he => by
  simp only [List.mem_cons, List.not_mem_nil, or_false] at he
  rcases he with rfl | rfl
  · exact encFit_e1
  · exact encFit_e2
theorem mread (W : World) : Calls Tryz.prog 25 #[.string ⟨(mf0 ++ mf1).toArray⟩] W fun e w' => ∃ tv', e = .returned (.tuple #[stV tv' sA2.log sA2.next, .bool true, .bool true]) ∧ RdTB w' W.heap.size tv' sA2.l ∧ Below W.heap.size W w' := by
  have hz : (⟨(mf0 ++ mf1).toArray⟩ : ByteArray).size = (mf0 ++ mf1).length := List.size_toArray
  refine read_two _ W (by rw [hz, mlen.2.2]; omega) (by rw [hz]; exact mwhole) mdec0 mb0_eq valid0 mdec1 mb1_eq (by decide) fits2 oks2 (by decide) (by decide) mapp (fun j hj => by
    obtain rfl : j = 0 := by simp [st0] at hj; omega
    rfl)
set_option maxHeartbeats 4000000 in
theorem mlives_any (w : World) : Calls Tryz.prog 5 #[] w fun e w' => e = .returned (.bool true) ∧ Below w.heap.size w w' := by
  go_enter Tryz.func5, Tryz.ntmps5
  go_wp2_with fail
  refine (live_new 10000 w (by omega) (by omega)).mono ?_
  rintro e w1 ⟨v, rfl, h1⟩
  obtain ⟨bd, rfl⟩ := h1.ptr
  have H1 := Lib.hid (show Live w (fun _ => False) w1 (.pointer (some ⟨bd, 0, none⟩)) md0 from h1)
  clear h1
  go_wp2_with fail
  refine (open_fresh H1.out moff.1 mk0 (show Frm.frame (Ed.encS st0) = mf0 by rw [mb0_eq]; rfl) (by rw [mb0_eq]; decide) valid0 mk1 mk2 mk3 mk4).mono ?_
  rintro e w2 ⟨m, tv, Y, rfl, hm⟩
  rw [mst.1, mlen.1] at hm
  have HM2 := Lib.hid hm
  clear hm H1
  go_wp2_with fail
  refine (mstate_any HM2.out valid0 (st_fits valid0)).mono ?_
  rintro e w3 ⟨ta, rfl, hra, hb⟩
  have HRA := Lib.hid hra.rd
  have HM3 := Lib.hid (HM2.out.below hb)
  obtain ⟨xa, ca, hva, _⟩ := hra.rd
  subst hva
  unfold stV
  clear hra hb HM2
  go_wp2_with fail
  refine (first_any w3).mono ?_
  rintro e w4 ⟨tb, rfl, hrb, hb⟩
  have hss := sameState_any (.slice xa st0.l.length ca) tb st0 st0 w4 (HRA.out.below hb) hrb.rd (st_fits valid0) (st_fits valid0)
  have HM4 := Lib.hid (HM3.out.below hb)
  obtain ⟨xb, cb, hvb, _⟩ := hrb.rd
  subst hvb
  rw [sameB_true rfl] at hss
  unfold stV at hss
  have HSS := Lib.hid hss
  unfold stV
  clear hrb hb HM3 hss
  go_wp2_with fail
  refine HSS.out.mono ?_
  rintro e w5 ⟨rfl, hb⟩
  have HM5 := Lib.hid (HM4.out.below hb)
  clear hb HM4
  obtain ⟨w6, hw6⟩ : ∃ w6, w6 = w5.alloc (.cells #[.int .i64 1, .int .i64 0, .int .i64 5, .slice none 0 0, .string ⟨#[]⟩, .int .i64 3, .int .i64 0, .int .i64 0, .slice none 0 0, .string ⟨#[109]⟩] 44 (0, 0)) := ⟨_, rfl⟩
  have hb6 : Below w5.heap.size w5 w6 := by rw [hw6]; exact (Below.refl _ _).alloc (Nat.le_refl _) _
  have HRL := Lib.hid (rdE_lit2 (show Blk w6 w5.heap.size 44 _ by rw [hw6]; exact Blk.alloc_new _ _ _))
  have HM6 := Lib.hid (HM5.out.below hb6)
  have HW6 := Lib.hid hw6
  clear hb6 hw6 HM5
  go_wp2_with fail
  rw [← HW6.out]
  refine (mdo_any HM6.out moff.2.1 mst.2.1 (st_fits valid0) HRL.out (by decide) (by decide) oks2 fits2 mapp (by decide) (show Frm.frame (Ed.enc [e1, e2]) = mf1 by rw [mb1_eq]; rfl) (by rw [mb1_eq]; decide) mk5 mk6).mono ?_
  rintro e w7 ⟨rfl, Y2, tv2, _, hm⟩
  have HM7 := Lib.hid hm
  clear hm HM6
  go_wp2_with fail
  refine (mstate_any HM7.out validA2 (st_fits validA2)).mono ?_
  rintro e w8 ⟨ts, rfl, hrs, hb⟩
  have HRS := Lib.hid hrs
  obtain ⟨sx, sc, hvs, _⟩ := hrs.rd
  have hvs2 : ts = .slice sx 2 sc := hvs
  subst hvs2
  unfold stV
  obtain ⟨w9, hw9⟩ : ∃ w9, w9 = w8.alloc (.cells #[.slice sx 2 sc, .int .i64 1, .int .i64 6] 28 (0, 0)) := ⟨_, rfl⟩
  obtain ⟨k9, b9⟩ := three_cells w9 hw9
  have hz78 := hb.size
  have hz89 := b9.size
  have hb79 := hb.trans (b9.mono hz78)
  have HM9 := Lib.hid (HM7.out.add hb79)
  have hql := k9.lt
  obtain ⟨x0, x1, x2, _⟩ := blk3 k9
  rw [hw9] at x0 x1 x2
  have HXQ := Lib.hid (show Also Y2 w7 w9 w8.heap.size from .inr ⟨hz78, hql⟩)
  have HRX := Lib.hid (((HRS.out.rdx).below b9).weak (Y := Also Y2 w7 w9) (fun k hk => .inr ⟨hk.1, by have := hk.2; omega⟩))
  obtain ⟨q, hq⟩ : ∃ q, q = w8.heap.size := ⟨_, rfl⟩
  have K9 := Lib.hid k9
  have HW9 := Lib.hid hw9
  have HQ := Lib.hid hq
  have Hlog : sA2.log = 1 := rfl
  have Hnext : sA2.next = 6 := rfl
  rw [Hlog, Hnext]
  clear hrs hvs hb b9 k9 hw9 hb79 hz78 hz89 hql hq Hlog Hnext
  go_wp2_with fail
  rw [← HW9.out, ← HQ.out]
  refine (HM9.out.live.crashP (.slice none 0 0) [] (keepR_nil _ _) (by decide) mk7).mono ?_
  rintro e w10 ⟨rfl, hl, hk⟩
  have HM10 := Lib.hid (HM9.out.turn hl hk)
  have K10 := Lib.hid (show Blk w10 q 28 #[.slice sx 2 sc, .int .i64 1, .int .i64 6] by rw [HQ.out]; exact K9.out.chg hk (fun e => e HXQ.out))
  have HRX10 := Lib.hid (HRX.out.keeps hk (fun _ e => e))
  have HXQ2 := Lib.hid (show Also Y2 w7 w9 q by rw [HQ.out]; exact HXQ.out)
  clear hl hk x0 x1 x2
  go_wp2_with fail
  refine (mdo_down HM10.out moff.2.2.2.1 none 0 0).mono ?_
  rintro e w11 ⟨rfl, hb⟩
  have HM11 := Lib.hid (HM10.out.below hb)
  have K11 := Lib.hid (K10.out.below hb)
  have HRX11 := Lib.hid (HRX10.out.below hb)
  clear hb
  go_wp2_with fail
  refine (HM11.out.live.startK mk8).mono ?_
  rintro e w12 ⟨rfl, hl, hk⟩
  have K12 := Lib.hid (K11.out.chg hk (fun e => e HXQ2.out))
  have HRX12 := Lib.hid (HRX11.out.keeps hk (fun _ e => e))
  have HL12 := Lib.hid hl
  clear hl hk
  go_wp2_with fail
  refine (open_again HL12.out ⟨(mf0 ++ mf1).toArray⟩ (by rw [mk9]) mread).mono ?_
  rintro e y0 ⟨o, tvo, Y3, rfl, hm, hb⟩
  have K13 := Lib.hid (K12.out.below hb)
  have HRX13 := Lib.hid ((HRX12.out.below hb).rd)
  have HMO := Lib.hid hm
  have HBW := Lib.hid hm.live.below
  clear hm hb
  go_wp2_with fail
  refine wp_region_two (T := fun W => W.cell? ⟨q, 0, none⟩ = some (.slice sx 2 sc) ∧ W.cell? ⟨q, 1, none⟩ = some (.int .i64 1) ∧ W.cell? ⟨q, 2, none⟩ = some (.int .i64 6)) (S := fun _ => True) (n := 99) (by kernel_rfl) ?_
  obtain ⟨y1, hy1⟩ : ∃ y1, y1 = y0.drew := ⟨_, rfl⟩
  rw [← hy1]
  have hb1 : Below y0.heap.size y0 y1 := by rw [hy1]; exact (Below.refl _ _).drew
  have KQ := Lib.hid (K13.out.below hb1)
  have HM1 := Lib.hid (HMO.out.below hb1)
  have HR1 := Lib.hid (HRX13.out.below hb1)
  have HB1 := Lib.hid (HBW.out.trans (hb1.mono HBW.out.size))
  have Hy1 := Lib.hid (Below.refl y1.heap.size y1)
  have hT : y1.cell? ⟨q, 0, none⟩ = some (.slice sx 2 sc) ∧ y1.cell? ⟨q, 1, none⟩ = some (.int .i64 1) ∧ y1.cell? ⟨q, 2, none⟩ = some (.int .i64 6) := by
    obtain ⟨x0, x1, x2, _⟩ := blk3 KQ.out
    exact ⟨x0, x1, x2⟩
  have hS : True := trivial
  clear hy1 hb1
  refine two_takeT 0 (some 67) (v := ?_) rfl rfl (by kernel_rfl) (by kernel_rfl) (by kernel_rfl) (by decide) (fun _ _ _ h => h) (Or.inl ⟨by rfl, ?hy0⟩) hT hS ?_
  case hy0 => (intro w' hT'; (try unfold T8 at hT'); (try unfold T9 at hT'); (try unfold S8 at hT'); go_simp; (try with_reducible rfl))
  try simp only [Act.put, List.setIfInBounds_toArray, List.set_cons_zero, List.set_cons_succ]
  refine two_takeT 1 (some 68) (v := ?_) rfl rfl (by kernel_rfl) (by kernel_rfl) (by kernel_rfl) (by decide) (fun _ _ _ h => h) (Or.inl ⟨by rfl, ?hy1⟩) hT hS ?_
  case hy1 => (intro w' hT'; (try unfold T8 at hT'); (try unfold T9 at hT'); (try unfold S8 at hT'); go_simp; (try with_reducible rfl))
  try simp only [Act.put, List.setIfInBounds_toArray, List.set_cons_zero, List.set_cons_succ]
  refine two_takeT 2 (some 69) (v := ?_) rfl rfl (by kernel_rfl) (by kernel_rfl) (by kernel_rfl) (by decide) (fun _ _ _ h => h) (Or.inl ⟨by rfl, ?hy2⟩) hT hS ?_
  case hy2 => (intro w' hT'; (try unfold T8 at hT'); (try unfold T9 at hT'); (try unfold S8 at hT'); go_simp; (try with_reducible rfl))
  try simp only [Act.put, List.setIfInBounds_toArray, List.set_cons_zero, List.set_cons_succ]
  refine two_takeT 3 (some 70) (v := ?_) rfl rfl (by kernel_rfl) (by kernel_rfl) (by kernel_rfl) (by decide) (fun _ _ _ h => h) (Or.inl ⟨by rfl, ?hy3⟩) hT hS ?_
  case hy3 => (intro w' hT'; (try unfold T8 at hT'); (try unfold T9 at hT'); (try unfold S8 at hT'); go_simp; (try with_reducible rfl))
  try simp only [Act.put, List.setIfInBounds_toArray, List.set_cons_zero, List.set_cons_succ]
  refine two_takeT 5 (some 72) (v := ?_) rfl rfl (by kernel_rfl) (by kernel_rfl) (by kernel_rfl) (by decide) (fun _ _ _ h => h) (Or.inl ⟨by rfl, ?hy5⟩) hT hS ?_
  case hy5 => (intro w' hT'; (try unfold T8 at hT'); (try unfold T9 at hT'); (try unfold S8 at hT'); go_simp; (try with_reducible rfl))
  try simp only [Act.put, List.setIfInBounds_toArray, List.set_cons_zero, List.set_cons_succ]
  refine two_one 4 rfl (by kernel_rfl) ?_
  intro K hK
  go_simp
  refine (mstate_any HM1.out validA2 (st_fits validA2)).mono ?_
  rintro e y2 ⟨t2, rfl, hr2, hb2⟩
  have Hy2 := Lib.hid (Hy1.out.trans (hb2.mono Hy1.out.size))
  have HSS := Lib.hid (sameState_any t2 (.slice sx 2 sc) sA2 sA2 y2 hr2.rd (HR1.out.below hb2) (st_fits validA2) (st_fits validA2))
  obtain ⟨x2, c2, hv2, _⟩ := hr2.rd
  subst hv2
  clear hr2 hb2
  rw [sameB_true rfl] at HSS
  unfold stV at HSS
  have hT1 : y2.cell? ⟨q, 0, none⟩ = some (.slice sx 2 sc) ∧ y2.cell? ⟨q, 1, none⟩ = some (.int .i64 1) ∧ y2.cell? ⟨q, 2, none⟩ = some (.int .i64 6) := by
    obtain ⟨x0, x1, x2, _⟩ := blk3 (KQ.out.below Hy2.out)
    exact ⟨x0, x1, x2⟩
  refine hK.out _ _ hT1 (fun _ _ => hS) ?_
  clear hK K hT
  have hT := hT1
  clear hT1
  try simp only [Act.put, List.setIfInBounds_toArray, List.set_cons_zero, List.set_cons_succ]
  refine two_one 6 rfl (by kernel_rfl) ?_
  intro K hK
  go_simp
  refine HSS.out.mono ?_
  rintro e y3 ⟨rfl, hb3⟩
  have Hy3 := Lib.hid (Hy2.out.trans (hb3.mono Hy2.out.size))
  clear hb3
  have hT1 : y3.cell? ⟨q, 0, none⟩ = some (.slice sx 2 sc) ∧ y3.cell? ⟨q, 1, none⟩ = some (.int .i64 1) ∧ y3.cell? ⟨q, 2, none⟩ = some (.int .i64 6) := by
    obtain ⟨x0, x1, x2, _⟩ := blk3 (KQ.out.below Hy3.out)
    exact ⟨x0, x1, x2⟩
  refine hK.out _ _ hT1 (fun _ _ => hS) ?_
  clear hK K hT
  have hT := hT1
  clear hT1
  try simp only [Act.put, List.setIfInBounds_toArray, List.set_cons_zero, List.set_cons_succ]
  refine two_takeT 7 (some 74) (v := ?_) rfl rfl (by kernel_rfl) (by kernel_rfl) (by kernel_rfl) (by decide) (fun _ _ _ h => h) (Or.inl ⟨by rfl, ?hy7⟩) hT hS ?_
  case hy7 => (intro w' hT'; (try unfold T8 at hT'); (try unfold T9 at hT'); (try unfold S8 at hT'); go_simp; (try with_reducible rfl))
  try simp only [Act.put, List.setIfInBounds_toArray, List.set_cons_zero, List.set_cons_succ]
  refine two_takeT 8 (some 75) (v := ?_) rfl rfl (by kernel_rfl) (by kernel_rfl) (by kernel_rfl) (by decide) (fun _ _ _ h => h) (Or.inl ⟨by rfl, ?hy8⟩) hT hS ?_
  case hy8 => (intro w' hT'; (try unfold T8 at hT'); (try unfold T9 at hT'); (try unfold S8 at hT'); go_simp; (try with_reducible rfl))
  try simp only [Act.put, List.setIfInBounds_toArray, List.set_cons_zero, List.set_cons_succ]
  refine two_takeT 9 (some 76) (v := ?_) rfl rfl (by kernel_rfl) (by kernel_rfl) (by kernel_rfl) (by decide) (fun _ _ _ h => h) (Or.inl ⟨by rfl, ?hy9⟩) hT hS ?_
  case hy9 => (intro w' hT'; (try unfold T8 at hT'); (try unfold T9 at hT'); (try unfold S8 at hT'); go_simp; (try with_reducible rfl))
  try simp only [Act.put, List.setIfInBounds_toArray, List.set_cons_zero, List.set_cons_succ]
  refine two_takeT 10 (some 77) (v := ?_) rfl rfl (by kernel_rfl) (by kernel_rfl) (by kernel_rfl) (by decide) (fun _ _ _ h => h) (Or.inl ⟨by rfl, ?hy10⟩) hT hS ?_
  case hy10 => (intro w' hT'; (try unfold T8 at hT'); (try unfold T9 at hT'); (try unfold S8 at hT'); go_simp; (try with_reducible rfl))
  try simp only [Act.put, List.setIfInBounds_toArray, List.set_cons_zero, List.set_cons_succ]
  refine two_one 11 rfl (by kernel_rfl) ?_
  intro K hK
  go_simp
  obtain ⟨y4, hy4⟩ : ∃ y4, y4 = y3.alloc (.cells #[.int .i64 1, .int .i64 0, .int .i64 5, .slice none 0 0, .string ⟨#[]⟩] 44 (0, 0)) := ⟨_, rfl⟩
  have hb4 : Below y3.heap.size y3 y4 := by rw [hy4]; exact (Below.refl _ _).alloc (Nat.le_refl _) _
  have HRL := Lib.hid (rdE_lit1 (show Blk y4 y3.heap.size 44 _ by rw [hy4]; exact Blk.alloc_new _ _ _))
  have Hy4 := Lib.hid (Hy3.out.trans (hb4.mono Hy3.out.size))
  rw [← hy4]
  clear hb4 hy4
  have hT1 : y4.cell? ⟨q, 0, none⟩ = some (.slice sx 2 sc) ∧ y4.cell? ⟨q, 1, none⟩ = some (.int .i64 1) ∧ y4.cell? ⟨q, 2, none⟩ = some (.int .i64 6) := by
    obtain ⟨x0, x1, x2, _⟩ := blk3 (KQ.out.below Hy4.out)
    exact ⟨x0, x1, x2⟩
  refine hK.out _ _ hT1 (fun _ _ => hS) ?_
  clear hK K hT
  have hT := hT1
  clear hT1
  try simp only [Act.put, List.setIfInBounds_toArray, List.set_cons_zero, List.set_cons_succ]
  refine two_one 12 rfl (by kernel_rfl) ?_
  intro K hK
  go_simp
  refine (mdo_no (HM1.out.below Hy4.out) moff.2.2.2.2 rfl (st_fits validA2) HRL.out (by decide) oks1 mref).mono ?_
  rintro e y5 ⟨rfl, hb5⟩
  have Hy5 := Lib.hid (Hy4.out.trans (hb5.mono Hy4.out.size))
  clear hb5
  have hT1 : y5.cell? ⟨q, 0, none⟩ = some (.slice sx 2 sc) ∧ y5.cell? ⟨q, 1, none⟩ = some (.int .i64 1) ∧ y5.cell? ⟨q, 2, none⟩ = some (.int .i64 6) := by
    obtain ⟨x0, x1, x2, _⟩ := blk3 (KQ.out.below Hy5.out)
    exact ⟨x0, x1, x2⟩
  refine hK.out _ _ hT1 (fun _ _ => hS) ?_
  clear hK K hT
  have hT := hT1
  clear hT1
  try simp only [Act.put, List.setIfInBounds_toArray, List.set_cons_zero, List.set_cons_succ]
  refine two_takeT 13 (some 80) (v := ?_) rfl rfl (by kernel_rfl) (by kernel_rfl) (by kernel_rfl) (by decide) (fun _ _ _ h => h) (Or.inl ⟨by rfl, ?hy13⟩) hT hS ?_
  case hy13 => (intro w' hT'; (try unfold T8 at hT'); (try unfold T9 at hT'); (try unfold S8 at hT'); go_simp; (try with_reducible rfl))
  try simp only [Act.put, List.setIfInBounds_toArray, List.set_cons_zero, List.set_cons_succ]
  refine two_takeT 14 (some 81) (v := ?_) rfl rfl (by kernel_rfl) (by kernel_rfl) (by kernel_rfl) (by decide) (fun _ _ _ h => h) (Or.inl ⟨by rfl, ?hy14⟩) hT hS ?_
  case hy14 => (intro w' hT'; (try unfold T8 at hT'); (try unfold T9 at hT'); (try unfold S8 at hT'); go_simp; (try with_reducible rfl))
  try simp only [Act.put, List.setIfInBounds_toArray, List.set_cons_zero, List.set_cons_succ]
  refine two_takeT 15 (some 82) (v := ?_) rfl rfl (by kernel_rfl) (by kernel_rfl) (by kernel_rfl) (by decide) (fun _ _ _ h => h) (Or.inl ⟨by rfl, ?hy15⟩) hT hS ?_
  case hy15 => (intro w' hT'; (try unfold T8 at hT'); (try unfold T9 at hT'); (try unfold S8 at hT'); go_simp; (try with_reducible rfl))
  try simp only [Act.put, List.setIfInBounds_toArray, List.set_cons_zero, List.set_cons_succ]
  refine two_takeT 16 (some 83) (v := ?_) rfl rfl (by kernel_rfl) (by kernel_rfl) (by kernel_rfl) (by decide) (fun _ _ _ h => h) (Or.inl ⟨by rfl, ?hy16⟩) hT hS ?_
  case hy16 => (intro w' hT'; (try unfold T8 at hT'); (try unfold T9 at hT'); (try unfold S8 at hT'); go_simp; (try with_reducible rfl))
  try simp only [Act.put, List.setIfInBounds_toArray, List.set_cons_zero, List.set_cons_succ]
  refine two_takeT 18 (some 85) (v := ?_) rfl rfl (by kernel_rfl) (by kernel_rfl) (by kernel_rfl) (by decide) (fun _ _ _ h => h) (Or.inl ⟨by rfl, ?hy18⟩) hT hS ?_
  case hy18 => (intro w' hT'; (try unfold T8 at hT'); (try unfold T9 at hT'); (try unfold S8 at hT'); go_simp; (try with_reducible rfl))
  try simp only [Act.put, List.setIfInBounds_toArray, List.set_cons_zero, List.set_cons_succ]
  refine two_one 17 rfl (by kernel_rfl) ?_
  intro K hK
  go_simp
  refine (mstate_any (HM1.out.below Hy5.out) validA2 (st_fits validA2)).mono ?_
  rintro e y6 ⟨t6, rfl, hr6, hb6⟩
  have Hy6 := Lib.hid (Hy5.out.trans (hb6.mono Hy5.out.size))
  have HSS2 := Lib.hid (sameState_any t6 (.slice sx 2 sc) sA2 sA2 y6 hr6.rd (HR1.out.below Hy6.out) (st_fits validA2) (st_fits validA2))
  obtain ⟨x6, c6, hv6, _⟩ := hr6.rd
  subst hv6
  rw [sameB_true rfl] at HSS2
  unfold stV at HSS2
  clear hr6 hb6
  have hT1 : y6.cell? ⟨q, 0, none⟩ = some (.slice sx 2 sc) ∧ y6.cell? ⟨q, 1, none⟩ = some (.int .i64 1) ∧ y6.cell? ⟨q, 2, none⟩ = some (.int .i64 6) := by
    obtain ⟨x0, x1, x2, _⟩ := blk3 (KQ.out.below Hy6.out)
    exact ⟨x0, x1, x2⟩
  refine hK.out _ _ hT1 (fun _ _ => hS) ?_
  clear hK K hT
  have hT := hT1
  clear hT1
  try simp only [Act.put, List.setIfInBounds_toArray, List.set_cons_zero, List.set_cons_succ]
  refine two_one 19 rfl (by kernel_rfl) ?_
  intro K hK
  go_simp
  refine HSS2.out.mono ?_
  rintro e y7 ⟨rfl, hb7⟩
  have Hy7 := Lib.hid (Hy6.out.trans (hb7.mono Hy6.out.size))
  clear hb7
  have hT1 : y7.cell? ⟨q, 0, none⟩ = some (.slice sx 2 sc) ∧ y7.cell? ⟨q, 1, none⟩ = some (.int .i64 1) ∧ y7.cell? ⟨q, 2, none⟩ = some (.int .i64 6) := by
    obtain ⟨x0, x1, x2, _⟩ := blk3 (KQ.out.below Hy7.out)
    exact ⟨x0, x1, x2⟩
  refine hK.out _ _ hT1 (fun _ _ => hS) ?_
  clear hK K hT
  have hT := hT1
  clear hT1
  try simp only [Act.put, List.setIfInBounds_toArray, List.set_cons_zero, List.set_cons_succ]
  refine two_takeT 20 (some 87) (v := ?_) rfl rfl (by kernel_rfl) (by kernel_rfl) (by kernel_rfl) (by decide) (fun _ _ _ h => h) (Or.inl ⟨by rfl, ?hy20⟩) hT hS ?_
  case hy20 => (intro w' hT'; (try unfold T8 at hT'); (try unfold T9 at hT'); (try unfold S8 at hT'); go_simp; (try with_reducible rfl))
  try simp only [Act.put, List.setIfInBounds_toArray, List.set_cons_zero, List.set_cons_succ]
  refine two_takeT 21 (some 0) (v := ?_) rfl rfl (by kernel_rfl) (by kernel_rfl) (by kernel_rfl) (by decide) (fun _ _ _ h => h) (Or.inl ⟨by rfl, ?hy21⟩) hT hS ?_
  case hy21 => (intro w' hT'; (try unfold T8 at hT'); (try unfold T9 at hT'); (try unfold S8 at hT'); go_simp; (try with_reducible rfl))
  try simp only [Act.put, List.setIfInBounds_toArray, List.set_cons_zero, List.set_cons_succ]
  refine two_done (by kernel_rfl) ?_ _
  clear hT hS
  go_wp2_with fail
  go_ret
  exact ⟨rfl, HB1.out.trans (Hy7.out.mono HB1.out.size)⟩
end Go.Proofs.YtcijhhnbhnaiaaaGreat

/- The chapter's edits come out, walked. -/
import Derived.Test.YtenbgfejonokdaaEdLivesP
namespace Go.Proofs.Ytenbgfejonokdaa
set_option linter.unusedSimpArgs false
set_option linter.unusedVariables false
set_option maxRecDepth 100000
open Go.RowKit

def edCells (e : Ed.Edit) : List Value := [.int .i64 e.kind, .int .i64 e.at_, .int .i64 e.file, .slice none 0 0, .string e.key]
theorem rdE_lit {w : World} {g c n : Nat} {t : TypeId} {cs : Array Value} {l : List Ed.Edit} (h : Blk w g t cs) (hc : cs.toList = l.flatMap edCells) (hf : ∀ e ∈ l, e.files = []) (hn : n = l.length) : RdE w (.slice (some ⟨g, 0, none⟩) n c) l := by
  subst hn
  refine ⟨_, c, rfl, fun j hj => ?_⟩
  have hlen : ∀ (l : List Ed.Edit) (j i : Nat), j < l.length → i < 5 → (l.flatMap edCells)[j * 5 + i]? = (edCells (l.getD j ⟨0, 0, 0, [], ⟨#[]⟩⟩))[i]? := by
    intro l
    induction l with
    | nil => intro j i hj; simp at hj
    | cons e l ih =>
      intro j i hj hi
      rw [List.flatMap_cons]
      cases j with
      | zero => rw [Nat.zero_mul, Nat.zero_add, List.getElem?_append_left (by show i < 5; exact hi)]; rfl
      | succ j =>
        rw [List.getElem?_append_right (by show 5 ≤ _; omega), show (j + 1) * 5 + i - (edCells e).length = j * 5 + i by show (j + 1) * 5 + i - 5 = _; omega, ih j i (by simpa using hj) hi]
        rfl
  have hg : l.getD j ⟨0, 0, 0, [], ⟨#[]⟩⟩ = l[j] := by simp [List.getD_eq_getElem?_getD, List.getElem?_eq_getElem hj]
  have hcell : ∀ i, i < 5 → w.cell? ⟨g, j * 5 + i, none⟩ = (edCells l[j])[i]? := fun i hi => by
    rw [h.cell, ← Array.getElem?_toList, hc, hlen l j i hj hi, hg]
  refine ⟨g, 0, .slice none 0 0, rfl, h.lt, ?_, ?_, ?_, ?_, ?_, .inl ⟨none, 0, rfl, hf _ (List.getElem_mem hj)⟩⟩
  · rw [Nat.zero_add]; exact hcell 0 (by omega)
  · rw [Nat.zero_add]; exact hcell 1 (by omega)
  · rw [Nat.zero_add]; exact hcell 2 (by omega)
  · rw [Nat.zero_add]; exact hcell 3 (by omega)
  · rw [Nat.zero_add]; exact hcell 4 (by omega)
theorem edOk_small {e : Ed.Edit} (hf : e.files = []) (hk : e.key.size ≤ 1) (ha : 0 ≤ e.at_ ∧ e.at_ ≤ 1) : EdOk e := ⟨by rw [hf]; simp, by unfold maxLen; omega, by omega⟩
theorem rd57 {w : World} {b : Nat} {t : TypeId} (h : Blk w b t #[.int .i64 5, .int .i64 7]) : RdI w (.slice (some ⟨b, 0, none⟩) 2 2) [5, 7] :=
  .inr ⟨b, 0, 2, rfl, h.lt, fun j hj => by
    rcases (show j = 0 ∨ j = 1 by simp at hj; omega) with rfl | rfl
    · exact h.cell 0
    · exact h.cell 1⟩
set_option maxHeartbeats 8000000 in
theorem lives_any (w : World) : Calls Try.prog 40 #[] w fun e w' => e = .returned (.bool true) ∧ Below w.heap.size w w' := by
  go_enter Try.func40, Try.ntmps40
  go_wp2_with fail
  refine (first_any w).mono ?_
  rintro e w1 ⟨tv, rfl, hrd, hb1⟩
  obtain ⟨x1, c1, rfl, _⟩ := hrd.rd
  have HR1 := Lib.hid hrd.rd
  have HB1 := Lib.hid hb1
  obtain ⟨n1, hn1⟩ : ∃ n1, n1 = st0.l.length := ⟨_, rfl⟩
  rw [← hn1] at HR1 ⊢
  clear hrd hb1 hn1
  unfold stV
  go_wp2_with fail
  obtain ⟨w2, hw2⟩ : ∃ w2, w2 = w1.alloc (.cells #[.int .i64 1, .int .i64 0, .int .i64 5, .slice none 0 0, .string ⟨#[]⟩, .int .i64 3, .int .i64 0, .int .i64 0, .slice none 0 0, .string ⟨#[109]⟩, .int .i64 1, .int .i64 1, .int .i64 7, .slice none 0 0, .string ⟨#[]⟩] 74 (0, 0)) := ⟨_, rfl⟩
  rw [← hw2]
  have hb2 : Below w1.heap.size w1 w2 := by rw [hw2]; exact (Below.refl _ _).alloc (Nat.le_refl _) _
  have hE : RdE w2 (.slice (some ⟨w1.heap.size, 0, none⟩) 3 3) [e1, e2, e3] := rdE_lit (by rw [hw2]; exact Blk.alloc_new _ _ _) rfl (by intro e he; simp at he; rcases he with rfl | rfl | rfl <;> rfl) rfl
  have HALL := all_any _ st0 _ [e1, e2, e3] w2 (HR1.out.below hb2) (valid_fits valid0) hE (by simp) (fun j hj => by
    rcases (show j = 0 ∨ j = 1 ∨ j = 2 by simp at hj; omega) with rfl | rfl | rfl
    · exact (edOk_small rfl (by decide) (by decide) : EdOk e1)
    · exact (edOk_small rfl (by decide) (by decide) : EdOk e2)
    · exact (edOk_small rfl (by decide) (by decide) : EdOk e3))
  rw [apAll] at HALL
  unfold stV at HALL
  have HB2 := Lib.hid (HB1.out.trans (hb2.mono HB1.out.size))
  clear hw2 hb2 hE
  refine HALL.mono ?_
  rintro e w3 ⟨hb3, tA, rfl, hrA⟩
  obtain ⟨xA, cA, rfl, helA⟩ := hrA.rd
  have HRA := Lib.hid hrA.rd
  have HB3 := Lib.hid (HB2.out.trans (hb3.mono HB2.out.size))
  have hl2 : sA.l.length = 2 := rfl
  have hlg : sA.log = 1 := rfl
  have hnx : sA.next = 8 := rfl
  rw [hl2] at HRA
  unfold stV
  rw [hl2, hlg, hnx]
  have HelA := Lib.hid helA
  clear hb3 hrA HALL hl2 hlg hnx helA
  go_wp2_with fail
  obtain ⟨w4, hw4⟩ : ∃ w4, w4 = w3.alloc (.cells #[.slice xA 2 cA, .int .i64 1, .int .i64 8] 67 (0, 0)) := ⟨_, rfl⟩
  rw [← hw4]
  have hb4 : Below w3.heap.size w3 w4 := by rw [hw4]; exact (Below.refl _ _).alloc (Nat.le_refl _) _
  have K1 := Lib.hid (show Blk w4 w3.heap.size 67 #[.slice xA 2 cA, .int .i64 1, .int .i64 8] by rw [hw4]; exact Blk.alloc_new _ _ _)
  have HRA4 := Lib.hid (HRA.out.below hb4)
  have HB4 := Lib.hid (HB3.out.trans (hb4.mono HB3.out.size))
  have HAP := apply_any (.slice xA 2 cA) sA e4 (.slice none 0 0) w4 HRA4.out (valid_fits validA) (.inl ⟨none, 0, rfl, rfl⟩) (by decide) (by show (⟨#[]⟩ : ByteArray).size ≤ maxLen; unfold maxLen; decide) (by decide)
  rw [ap4] at HAP
  clear hw4 hb4
  refine HAP.mono ?_
  rintro e w5 ⟨hb5, tM, rfl, hrM⟩
  obtain ⟨xM, cM, rfl, _⟩ := hrM.rd
  have HRM := Lib.hid hrM.rd
  have HB5 := Lib.hid (HB4.out.trans (hb5.mono HB4.out.size))
  have K15 := Lib.hid (K1.out.below hb5)
  have HRA5 := Lib.hid (HRA4.out.below hb5)
  have hl2 : sM.l.length = 1 := rfl
  have hlg : sM.log = 1 := rfl
  have hnx : sM.next = 8 := rfl
  rw [hl2] at HRM
  unfold stV
  rw [hl2, hlg, hnx]
  have hlt3 : w3.heap.size < w5.heap.size := K15.out.lt
  have Hlt3 := Lib.hid hlt3
  clear hb5 hrM HAP hl2 hlg hnx hlt3
  go_wp2_with fail
  obtain ⟨w6, hw6⟩ : ∃ w6, w6 = w5.alloc (.cells #[.slice xM 1 cM, .int .i64 1, .int .i64 8] 67 (0, 0)) := ⟨_, rfl⟩
  rw [← hw6]
  have hb6 : Below w5.heap.size w5 w6 := by rw [hw6]; exact (Below.refl _ _).alloc (Nat.le_refl _) _
  have K2 := Lib.hid (show Blk w6 w5.heap.size 67 #[.slice xM 1 cM, .int .i64 1, .int .i64 8] by rw [hw6]; exact Blk.alloc_new _ _ _)
  have K16 := Lib.hid (K15.out.below hb6)
  have HRA6 := Lib.hid (HRA5.out.below hb6)
  have HRM6 := Lib.hid (HRM.out.below hb6)
  have HB6 := Lib.hid (HB5.out.trans (hb6.mono HB5.out.size))
  clear hw6 hb6
  refine (first_any w6).mono ?_
  rintro e w7 ⟨tF, rfl, hrF, hb7⟩
  obtain ⟨xF, cF, rfl, _⟩ := hrF.rd
  have HRF := Lib.hid hrF.rd
  have K17 := Lib.hid (K16.out.below hb7)
  have K27 := Lib.hid (K2.out.below hb7)
  have HRA7 := Lib.hid (HRA6.out.below hb7)
  have HRM7 := Lib.hid (HRM6.out.below hb7)
  have HB7 := Lib.hid (HB6.out.trans (hb7.mono HB6.out.size))
  have hl1 : st0.l.length = 1 := rfl
  rw [hl1] at HRF ⊢
  unfold stV
  clear hrF hb7 hl1
  go_wp2_with fail
  have HAP := apply_any (.slice xF 1 cF) st0 e5 (.slice none 0 0) w7 HRF.out (valid_fits valid0) (.inl ⟨none, 0, rfl, rfl⟩) (by decide) (by show (⟨#[]⟩ : ByteArray).size ≤ maxLen; unfold maxLen; decide) (by decide)
  rw [ap5] at HAP
  refine HAP.mono ?_
  rintro e w8 ⟨hb8, rfl⟩
  have K18 := Lib.hid (K17.out.below hb8)
  have K28 := Lib.hid (K27.out.below hb8)
  have HRA8 := Lib.hid (HRA7.out.below hb8)
  have HRM8 := Lib.hid (HRM7.out.below hb8)
  have HB8 := Lib.hid (HB7.out.trans (hb8.mono HB7.out.size))
  unfold stV
  clear hb8 HAP
  obtain ⟨w9, hw9⟩ : ∃ w9, w9 = w8.alloc (.cells #[.slice none 0 0, .int .i64 0, .int .i64 0] 67 (0, 0)) := ⟨_, rfl⟩
  have hb9 : Below w8.heap.size w8 w9 := by rw [hw9]; exact (Below.refl _ _).alloc (Nat.le_refl _) _
  have K19 := Lib.hid (K18.out.below hb9)
  have K29 := Lib.hid (K28.out.below hb9)
  have HRA9 := Lib.hid (HRA8.out.below hb9)
  have HRM9 := Lib.hid (HRM8.out.below hb9)
  have HB9 := Lib.hid (HB8.out.trans (hb9.mono HB8.out.size))
  obtain ⟨xx, cc, ee, helA⟩ := HRA9.out
  injection ee with e1' e2' e3'
  obtain ⟨pb, po, pt, hxx, hpb, _, c1, hr1⟩ := helA 1 (by decide)
  rw [← e1'] at hxx
  subst hxx
  obtain ⟨yy, dd, ff, helM⟩ := HRM9.out
  injection ff with f1' f2' f3'
  obtain ⟨qb, qo, qt, hyy, hqb, _, d1, hr2⟩ := helM 0 (by decide)
  rw [← f1'] at hyy
  subst hyy
  have hs1 : sA.l[1].tabs = [5, 7] := rfl
  have hs2 : sM.l[0].tabs = [5, 7] := rfl
  rw [hs1] at hr1
  rw [hs2] at hr2
  obtain ⟨px, pc, rfl, _⟩ := hr1.form
  obtain ⟨qx, qc, rfl, _⟩ := hr2.form
  have hpb' : pb < w9.heap.size := hpb
  have HR1' := Lib.hid hr1
  have HR2' := Lib.hid hr2
  obtain ⟨a0, a1, a2, _, _, _⟩ := blk3 K19.out
  obtain ⟨b0, b1, b2, _, _, _⟩ := blk3 K29.out
  have hz1 : ([5, 7] : List Int).length = 2 := rfl
  rw [hz1] at HR1' HR2' c1 d1
  simp only [Nat.one_mul] at c1
  simp only [Nat.zero_mul, Nat.add_zero] at d1
  have HC1 := Lib.hid c1
  have HD1 := Lib.hid d1
  have HA0 := Lib.hid a0
  have HB0 := Lib.hid b0
  have HW9 := Lib.hid hw9
  have Hz9 := Lib.hid (show w9.heap.size = w8.heap.size + 1 by rw [hw9]; simp)
  have HA2 := Lib.hid a2
  have HA1 := Lib.hid a1
  rw [hw9] at a0 c1
  clear hb9 e1' e2' e3' f1' f2' f3' helA helM hs1 hs2 hr1 hr2 hw9 a1 a2 b0 b1 b2 d1 hz1
  go_wp2_with fail
  rw [← HW9.out]
  obtain ⟨w10, hw10⟩ : ∃ w10, w10 = w9.alloc (.cells #[.int .i64 5, .int .i64 7] 3 (0, 0)) := ⟨_, rfl⟩
  rw [← hw10]
  have hb10 : Below w9.heap.size w9 w10 := by rw [hw10]; exact (Below.refl _ _).alloc (Nat.le_refl _) _
  have hlit : Blk w10 (w8.heap.size + 1) 3 #[.int .i64 5, .int .i64 7] := by rw [hw10, ← Hz9.out]; exact Blk.alloc_new _ _ _
  have HS := Lib.hid (sameInts_any _ _ [5, 7] [5, 7] w10 (HR1'.out.below hb10) (rd57 hlit) (by unfold maxLen; simp) (by unfold maxLen; simp))
  have hb10' := hb10
  clear a0 c1 hw10 hlit
  refine HS.out.mono ?_
  rintro e w11 ⟨rfl, m1, hm1⟩
  have hb11 : Below w9.heap.size w9 w11 := by rw [hm1]; exact below_drewN hb10 m1
  rw [show decide (([5, 7] : List Int) = [5, 7]) = true from rfl]
  have HB11 := Lib.hid (HB9.out.trans (hb11.mono HB9.out.size))
  have K1b := Lib.hid (K19.out.below hb11)
  have K2b := Lib.hid (K29.out.below hb11)
  have HRAb := Lib.hid (HRA9.out.below hb11)
  have HR2b := Lib.hid (HR2'.out.below hb11)
  obtain ⟨b0, _, _, _, _, _⟩ := blk3 K2b.out
  have d1 := (hb11.cell (p := ⟨qb, qo + 1, none⟩) hqb).trans HD1.out
  clear hb10 hb10' hb11 hm1 HS
  go_wp2_with fail
  obtain ⟨w12, hw12⟩ : ∃ w12, w12 = w11.alloc (.cells #[.int .i64 5, .int .i64 7] 3 (0, 0)) := ⟨_, rfl⟩
  rw [← hw12]
  have hb12 : Below w11.heap.size w11 w12 := by rw [hw12]; exact (Below.refl _ _).alloc (Nat.le_refl _) _
  have hlit : Blk w12 w11.heap.size 3 #[.int .i64 5, .int .i64 7] := by rw [hw12]; exact Blk.alloc_new _ _ _
  have HS := Lib.hid (sameInts_any _ _ [5, 7] [5, 7] w12 (HR2b.out.below hb12) (rd57 hlit) (by unfold maxLen; simp) (by unfold maxLen; simp))
  clear b0 d1 hw12 hlit
  refine HS.out.mono ?_
  rintro e w13 ⟨rfl, m2, hm2⟩
  have hb13 : Below w11.heap.size w11 w13 := by rw [hm2]; exact below_drewN hb12 m2
  rw [show decide (([5, 7] : List Int) = [5, 7]) = true from rfl]
  have HB13 := Lib.hid (HB11.out.trans (hb13.mono HB11.out.size))
  have K1c := Lib.hid (K1b.out.below hb13)
  have HRAc := Lib.hid (HRAb.out.below hb13)
  obtain ⟨a0, a1, a2, _, _, _⟩ := blk3 K1c.out
  clear hb12 hb13 hm2 HS
  go_wp2_with fail
  have HF := find_any _ sA ⟨#[97]⟩ w13 HRAc.out (valid_fits validA)
  rw [find_a] at HF
  refine HF.mono ?_
  rintro e w14 ⟨rfl, hb14⟩
  have HB14 := Lib.hid (HB13.out.trans (hb14.mono HB13.out.size))
  have K1d := Lib.hid (K1c.out.below hb14)
  have HRAd := Lib.hid (HRAc.out.below hb14)
  clear hb14 HF a0 a1 a2
  obtain ⟨a0, a1, a2, _, _, _⟩ := blk3 K1d.out
  go_wp2_with fail
  have HF := find_any _ sA ⟨#[109]⟩ w14 HRAd.out (valid_fits validA)
  rw [find_m] at HF
  refine HF.mono ?_
  rintro e w15 ⟨rfl, hb15⟩
  have HB15 := Lib.hid (HB14.out.trans (hb15.mono HB14.out.size))
  have K1e := Lib.hid (K1d.out.below hb15)
  have HRAe := Lib.hid (HRAd.out.below hb15)
  clear hb15 HF a0 a1 a2
  obtain ⟨a0, a1, a2, _, _, _⟩ := blk3 K1e.out
  go_wp2_with fail
  have HF := find_any _ sA ⟨#[122]⟩ w15 HRAe.out (valid_fits validA)
  rw [find_z] at HF
  refine HF.mono ?_
  rintro e w16 ⟨rfl, hb16⟩
  have HB16 := Lib.hid (HB15.out.trans (hb16.mono HB15.out.size))
  have K1f := Lib.hid (K1e.out.below hb16)
  clear hb16 HF a0 a1 a2
  obtain ⟨a0, a1, a2, _, _, _⟩ := blk3 K1f.out
  go_wp2_with fail
  go_ret
  exact ⟨rfl, HB16.out⟩
end Go.Proofs.Ytenbgfejonokdaa

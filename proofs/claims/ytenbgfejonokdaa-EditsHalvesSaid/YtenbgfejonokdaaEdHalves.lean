/- A tablet parted, and made one again, walked. -/
import Derived.Test.YtenbgfejonokdaaEdHalvesP
namespace Go.Proofs.Ytenbgfejonokdaa
set_option linter.unusedSimpArgs false
set_option linter.unusedVariables false
set_option maxRecDepth 100000
open Go.RowKit
attribute [local go_sem ↓] Go.wp_at_zero Go.wp_at_succ

/-- What may be done, gives a state; what may not, none. -/
theorem applyN_any (tv : Value) (s : Ed.St) (e : Ed.Edit) (fv : Value) (w : World) (h : RdT w tv s.l) (hv : Ed.Valid s) (hfl : RdI w fv e.files) (hok : EdOk e) :
    Calls Try.prog 42 #[stV tv s.log s.next, edV e fv] w fun E w' => ∃ sx sn sc lg3 nx3 okb, E = .returned (.tuple #[stV (.slice sx sn sc) lg3 nx3, .bool okb]) ∧ Below w.heap.size w w' ∧ (okb = false → Ed.applyP s e = none) ∧
      (okb = true → ∃ l3, Ed.applyP s e = some ⟨l3, lg3, nx3⟩ ∧ RdT w' (.slice sx sn sc) l3) := by
  refine (apply_any tv s e fv w h (valid_fits hv) hfl hok.files hok.key hok.at_).mono ?_
  rintro E w' ⟨hb, hm⟩
  cases hr : Ed.applyP s e with
  | none => rw [hr] at hm; exact ⟨none, 0, 0, 0, 0, false, hm, hb, fun _ => rfl, fun h => (by cases h)⟩
  | some s2 =>
    rw [hr] at hm
    obtain ⟨t2, rfl, hrd⟩ := hm
    obtain ⟨x, c, rfl, _⟩ := id hrd
    exact ⟨x, _, c, s2.log, s2.next, true, rfl, hb, fun h => (by cases h), fun _ => ⟨s2.l, rfl, hrd.rd⟩⟩
theorem edOk_sp (k : Nat) (hk : k ≤ 16) (key : ByteArray) (h : key.size ≤ 64) : EdOk (spE k key) := ⟨Nat.zero_le _, by show key.size ≤ maxLen; unfold maxLen; omega, by show _ ≤ (k : Int) ∧ (k : Int) ≤ _; omega⟩
theorem edOk_mg (k : Nat) (hk : k ≤ 16) : EdOk (mgE k) := ⟨Nat.zero_le _, Nat.zero_le _, by show _ ≤ (k : Int) ∧ (k : Int) ≤ _; omega⟩
theorem sameB_self (s : Ed.St) : sameB s s = true := by unfold sameB; simp
set_option maxHeartbeats 8000000 in
theorem walkEditsHalves (x : Value × List Ed.Edit) (at_ : Int) (key : ByteArray) (w : World) (h1 : EdsIn w x) (hat : 0 ≤ at_ ∧ at_ ≤ 255) (h2 : key.size ≤ maxLen) :
    Calls Try.prog 11 #[x.1, .int .u8 at_, .string key] w fun e w' => e = .returned (.bool true) ∧ Below w.heap.size w w' := by
  obtain ⟨lv, l⟩ := x
  obtain ⟨hl, hlm, hbd⟩ := h1
  simp only at hl hlm hbd ⊢
  obtain ⟨lx, lc, rfl, _⟩ := id hl
  have HL := Lib.hid hl
  have HBD := Lib.hid hbd
  have HBY := Lib.hid (beyond_any _ l 40 w hl hlm (fun j hj => ⟨(hbd j hj).files, (hbd j hj).key⟩))
  obtain ⟨n, hn⟩ : ∃ n, n = l.length := ⟨_, rfl⟩
  rw [← hn] at hlm HL HBY ⊢
  have Hn := Lib.hid hn
  obtain ⟨hat0, hat1⟩ := hat
  unfold maxLen at h2 hlm
  clear hl hbd hn
  go_enter Try.func11, Try.ntmps11
  go_wp2_with fail
  refine HBY.out.mono ?_
  rintro e w0 ⟨⟨b, rfl, hsm⟩, rfl⟩
  have HSM := Lib.hid hsm
  clear hsm
  by_cases hb1 : b = 1
  · subst hb1
    go_wp2_with fail
    refine (lives_any w).mono ?_
    rintro e w1 ⟨rfl, hb⟩
    go_wp2_with fail
    go_ret
    exact ⟨rfl, hb⟩
  have hbf : (b == 1) = false := beq_eq_false_iff_ne.2 hb1
  rw [hbf]
  have HS := Lib.hid (HSM.out hb1)
  clear hb1 hbf
  by_cases hk200 : 64 < key.size
  · have hk2 : (64 : Int) < key.size := by omega
    go_wp2_with fail
    refine (lives_any w).mono ?_
    rintro e w1 ⟨rfl, hb⟩
    go_wp2_with fail
    go_ret
    exact ⟨rfl, hb⟩
  have hk2 : ¬ (64 : Int) < key.size := by omega
  have hll : n ≤ 1000 := by have := HS.out.1; rw [← Hn.out] at this; omega
  have HBE := Lib.hid (behind_any (.slice lx n lc) l w HL.out (by rw [← Hn.out]; exact hll) (fun j hj => (HBD.out j hj).ok (HS.out.2 j hj).1))
  obtain ⟨st, hst⟩ : ∃ st, st = behindP l := ⟨_, rfl⟩
  rw [← hst] at HBE
  have Hv := Lib.hid (show Ed.Valid st by rw [hst]; exact behind_valid l)
  obtain ⟨sl, log, next⟩ := st
  clear hst
  go_wp2_with fail
  refine HBE.out.mono ?_
  rintro e w2 ⟨tv, rfl, hrd, hb2⟩
  obtain ⟨tx, tc, rfl, _⟩ := hrd.rd
  have HB2 := Lib.hid hb2
  have HR2 := Lib.hid hrd.rd
  have hsl := hrd.rd.len
  obtain ⟨m, hm⟩ : ∃ m, m = sl.length := ⟨_, rfl⟩
  try simp only at HR2 ⊢
  rw [← hm] at HR2 ⊢
  have HM := Lib.hid hm
  have hm0 : 0 < m := by rw [hm]; exact Hv.out.some
  have hm16 : m ≤ 16 := by rw [hm]; exact Hv.out.few
  unfold stV
  clear hrd hb2 hsl hm
  go_wp2_with fail
  obtain ⟨w3, hw3⟩ : ∃ w3, w3 = w2.alloc (.cells #[.slice tx m tc, .int .i64 log, .int .i64 next] 67 (0, 0)) := ⟨_, rfl⟩
  rw [← hw3]
  obtain ⟨b3, hb3⟩ : ∃ b3, b3 = w2.heap.size := ⟨_, rfl⟩
  have hb23 : Below w2.heap.size w2 w3 := by rw [hw3]; exact (Below.refl _ _).alloc (Nat.le_refl _) _
  have K3 := Lib.hid (show Blk w3 b3 67 #[.slice tx m tc, .int .i64 log, .int .i64 next] by rw [hb3, hw3]; exact Blk.alloc_new _ _ _)
  have HB3 := Lib.hid (HB2.out.trans (hb23.mono HB2.out.size))
  have HR3 := Lib.hid (HR2.out.below hb23)
  rw [← hb3]
  clear hw3 hb23 hb3
  obtain ⟨a0, a1, a2, _⟩ := blk3 K3.out
  have hmne : ¬ (m : Int) = 0 := by omega
  obtain ⟨k, hk⟩ : ∃ k : Nat, at_ % (m : Int) = k := ⟨(at_ % (m : Int)).toNat, by have := Int.emod_nonneg at_ (show (m : Int) ≠ 0 by omega); omega⟩
  have hkm : k < m := by have := Int.emod_lt_of_pos at_ (show (0 : Int) < m by omega); omega
  have hk16 : k ≤ 16 := by omega
  have hkl : k < sl.length := by rw [← HM.out]; exact hkm
  have HKL := Lib.hid hkl
  have Hks := Lib.hid (show key.size ≤ 64 by omega)
  have HAP := Lib.hid (applyN_any (.slice tx m tc) ⟨sl, log, next⟩ (spE k key) (.slice none 0 0) w3 HR3.out Hv.out (.inl ⟨none, 0, rfl, rfl⟩) (edOk_sp k hk16 key Hks.out))
  unfold edV stV spE at HAP
  try simp only at HAP
  have HLV := Lib.hid (fun w' => lives_any w')
  clear hkl
  go_wp2_with fail
  rw [hk]
  refine HAP.out.mono ?_
  rintro e w4 ⟨sx, sn, sc, lg3, nx3, okb, rfl, hb4, hno, hyes⟩
  have HNO := Lib.hid hno
  have HYES := Lib.hid hyes
  have K4 := Lib.hid (K3.out.below hb4)
  have HB4 := Lib.hid (HB3.out.trans (hb4.mono HB3.out.size))
  have HR4 := Lib.hid (HR3.out.below hb4)
  clear hno hyes hb4 a0 a1 a2
  cases okb with
  | false =>
    obtain ⟨f, hf⟩ : ∃ f, f = (sl[k]'HKL.out).frm := ⟨_, rfl⟩
    obtain ⟨to, hto⟩ : ∃ to, to = (stretchS ⟨sl, log, next⟩ k).2.1 := ⟨_, rfl⟩
    have hcond : ¬ Op.bytesLess f.toList key.toList = true ∨ (¬ to.toList = [] ∧ ¬ Op.bytesLess key.toList to.toList = true) ∨ sl.length = 16 := by
      rw [hf, hto]; exact halves_none Hv.out k HKL.out key Hks.out (HNO.out rfl)
    have hs1 : (stretchS ⟨sl, log, next⟩ k).1 = f := by rw [hf]; exact (stretch_in Hv.out k HKL.out).1
    have hs2 : (stretchS ⟨sl, log, next⟩ k).2.2 = true := (stretch_in Hv.out k HKL.out).2
    have Hcond := Lib.hid hcond
    obtain ⟨w5, hw5⟩ : ∃ w5, w5 = w4.alloc (.cells #[.slice sx sn sc, .int .i64 lg3, .int .i64 nx3] 67 (0, 0)) := ⟨_, rfl⟩
    have hb5 : Below w4.heap.size w4 w5 := by rw [hw5]; exact (Below.refl _ _).alloc (Nat.le_refl _) _
    obtain ⟨a0, a1, a2, _⟩ := blk3 (K4.out.below hb5)
    rw [hw5] at a0 a1 a2
    have HB5 := Lib.hid (HB4.out.trans (hb5.mono HB4.out.size))
    have HST := Lib.hid (stretch_any (.slice tx m tc) ⟨sl, log, next⟩ k w5 (HR4.out.below hb5) (valid_fits Hv.out))
    rw [hs1, hs2, ← hto] at HST
    unfold stV at HST
    try simp only at HST
    rw [hw5] at HST
    have HW5 := Lib.hid hw5
    have K5 := Lib.hid (K4.out.below hb5)
    have HM16 := Lib.hid (show sl.length = 16 → (m : Int) = 16 from fun e => by rw [HM.out, e]; rfl)
    clear hcond hs1 hs2 hf hto hw5 hb5
    go_wp2_with fail
    refine HST.out.mono ?_
    rintro e w6 ⟨rfl, hb6⟩
    rw [← HW5.out] at hb6
    have HB6 := Lib.hid (HB5.out.trans (hb6.mono HB5.out.size))
    have K6 := Lib.hid (K5.out.below hb6)
    clear a0 a1 a2 hb6
    obtain ⟨a0, a1, a2, _⟩ := blk3 K6.out
    have HC2 := Lib.hid (show ¬ (Op.bytesLess key.toList f.toList = false ∧ ¬ key.toList = f.toList) ∨ (¬ to.toList = [] ∧ ¬ Op.bytesLess key.toList to.toList = true) ∨ (m : Int) = 16 from by
      rcases Hcond.out with h | h | h
      · left
        intro ⟨h3, h4⟩
        have h5 := Ed.lt_or key f
        unfold Ed.lt at h5
        rw [h3, show (key.toList == f.toList) = false from beq_eq_false_iff_ne.2 h4] at h5
        rw [Bool.not_eq_true] at h
        rw [h] at h5
        cases h5
      · exact .inr (.inl h)
      · exact .inr (.inr (HM16.out h)))
    by_cases e1 : Op.bytesLess key.toList f.toList = true
    · skip
      go_wp2_with fail
      refine (lives_any w6).mono ?_
      rintro e w7 ⟨rfl, hb7⟩
      go_wp2_with fail
      go_ret
      exact ⟨rfl, HB6.out.trans (hb7.mono HB6.out.size)⟩
    have e1' : Op.bytesLess key.toList f.toList = false := by simpa using e1
    by_cases e2 : key.toList = f.toList
    · have e2b : (key.toList == f.toList) = true := by rw [e2]; simp
      have e2c : (Op.bytesLess key.toList f.toList || key.toList == f.toList) = true := by rw [e2b]; simp
      clear e1 e1'
      go_wp2_with fail
      refine (lives_any w6).mono ?_
      rintro e w7 ⟨rfl, hb7⟩
      go_wp2_with fail
      go_ret
      exact ⟨rfl, HB6.out.trans (hb7.mono HB6.out.size)⟩
    have e2' : (key.toList == f.toList) = false := beq_eq_false_iff_ne.2 e2
    by_cases c2 : to.toList = []
    · have c4 : (m : Int) = 16 := by
        rcases HC2.out with h | ⟨h, h'⟩ | h
        · exact absurd ⟨e1', e2⟩ h
        · exact absurd c2 h
        · exact h
      have c2' : to.toList.isEmpty = true := by rw [c2]; rfl
      go_wp2_with fail
      refine (lives_any w6).mono ?_
      rintro e w7 ⟨rfl, hb7⟩
      go_wp2_with fail
      go_ret
      exact ⟨rfl, HB6.out.trans (hb7.mono HB6.out.size)⟩
    have c2' : to.toList.isEmpty = false := by rw [List.isEmpty_eq_false_iff]; exact c2
    by_cases c3 : Op.bytesLess key.toList to.toList = true
    · have c4 : (m : Int) = 16 := by
        rcases HC2.out with h | ⟨h, h'⟩ | h
        · exact absurd ⟨e1', e2⟩ h
        · exact absurd c3 h'
        · exact h
      go_wp2_with fail
      refine (lives_any w6).mono ?_
      rintro e w7 ⟨rfl, hb7⟩
      go_wp2_with fail
      go_ret
      exact ⟨rfl, HB6.out.trans (hb7.mono HB6.out.size)⟩
    · have c3' : Op.bytesLess key.toList to.toList = false := by simpa using c3
      go_wp2_with fail
      refine (lives_any w6).mono ?_
      rintro e w7 ⟨rfl, hb7⟩
      go_wp2_with fail
      go_ret
      exact ⟨rfl, HB6.out.trans (hb7.mono HB6.out.size)⟩
  | true =>
    obtain ⟨l3, hl3, hrd3⟩ := HYES.out rfl
    obtain ⟨hv3, hlen3, hmg⟩ := halves_some Hv.out k HKL.out key hl3
    have Hv3 := Lib.hid hv3
    have HR3' := Lib.hid hrd3
    have hsn : sn = m + 1 := by have h1 := hrd3.len; rw [h1, HM.out]; exact hlen3
    subst hsn
    obtain ⟨w5, hw5⟩ : ∃ w5, w5 = w4.alloc (.cells #[.slice sx (m + 1) sc, .int .i64 lg3, .int .i64 nx3] 67 (0, 0)) := ⟨_, rfl⟩
    obtain ⟨q, hq⟩ : ∃ q, q = w4.heap.size := ⟨_, rfl⟩
    have hb5 : Below w4.heap.size w4 w5 := by rw [hw5]; exact (Below.refl _ _).alloc (Nat.le_refl _) _
    have KQ5 := Lib.hid (show Blk w5 q 67 #[.slice sx (m + 1) sc, .int .i64 lg3, .int .i64 nx3] by rw [hq, hw5]; exact Blk.alloc_new _ _ _)
    have K5 := Lib.hid (K4.out.below hb5)
    have HB5 := Lib.hid (HB4.out.trans (hb5.mono HB4.out.size))
    have HR5 := Lib.hid (HR4.out.below hb5)
    have HRA5 := Lib.hid (HR3'.out.below hb5)
    have HAP2 := Lib.hid (apply_any (.slice sx (m + 1) sc) ⟨l3, lg3, nx3⟩ (mgE k) (.slice none 0 0) w5 HRA5.out (valid_fits Hv3.out) (.inl ⟨none, 0, rfl, rfl⟩) (Nat.zero_le _) (Nat.zero_le _) (edOk_mg k hk16).at_)
    rw [hmg] at HAP2
    unfold edV stV mgE at HAP2
    try simp only at HAP2
    obtain ⟨a0, a1, a2, _⟩ := blk3 K5.out
    obtain ⟨g0, g1, g2, _⟩ := blk3 KQ5.out
    rw [hw5] at a0 a1 a2 HAP2
    rw [hw5, hq] at g0 g1 g2
    have HW5 := Lib.hid hw5
    have HQ := Lib.hid hq
    clear hl3 hv3 hlen3 hmg hrd3 hw5 hb5 hq
    go_wp2_with fail
    refine HAP2.out.mono ?_
    rintro e w6 ⟨hb6, tv2, rfl, hrd2⟩
    rw [← HW5.out] at hb6 hrd2
    obtain ⟨vx, vc, rfl, _⟩ := hrd2.rd
    have HR62 := Lib.hid hrd2.rd
    try simp only at HR62
    rw [← HM.out] at HR62 ⊢
    have HB6 := Lib.hid (HB5.out.trans (hb6.mono HB5.out.size))
    have K6 := Lib.hid (K5.out.below hb6)
    have KQ6 := Lib.hid (KQ5.out.below hb6)
    have HR6 := Lib.hid (HR5.out.below hb6)
    rw [← HQ.out]
    unfold stV
    obtain ⟨w7, hw7⟩ : ∃ w7, w7 = w6.alloc (.cells #[.slice vx m vc, .int .i64 log, .int .i64 next] 67 (0, 0)) := ⟨_, rfl⟩
    obtain ⟨q2, hq2⟩ : ∃ q2, q2 = w6.heap.size := ⟨_, rfl⟩
    have hb7 : Below w6.heap.size w6 w7 := by rw [hw7]; exact (Below.refl _ _).alloc (Nat.le_refl _) _
    have KN := Lib.hid (show Blk w7 q2 67 #[.slice vx m vc, .int .i64 log, .int .i64 next] by rw [hq2, hw7]; exact Blk.alloc_new _ _ _)
    have HB7 := Lib.hid (HB6.out.trans (hb7.mono HB6.out.size))
    have HSS := Lib.hid (sameState_any (.slice vx m vc) (.slice tx m tc) ⟨sl, log, next⟩ ⟨sl, log, next⟩ w7 (HR62.out.below hb7) (HR6.out.below hb7) (valid_fits Hv.out) (valid_fits Hv.out))
    rw [sameB_self] at HSS
    unfold stV at HSS
    try simp only at HSS
    clear a0 a1 a2 g0 g1 g2 hrd2 hb6
    obtain ⟨a0, a1, a2, _⟩ := blk3 (K6.out.below hb7)
    obtain ⟨g0, g1, g2, _⟩ := blk3 (KQ6.out.below hb7)
    obtain ⟨r0, r1, r2, _⟩ := blk3 KN.out
    rw [hw7] at a0 a1 a2 g0 g1 g2 r0 r1 r2 HSS
    rw [hq2] at r0 r1 r2
    have HW7 := Lib.hid hw7
    have HQ2 := Lib.hid hq2
    clear hw7 hq2 hb7
    go_wp2_with fail
    refine HSS.out.mono ?_
    rintro e w8 ⟨rfl, hb8⟩
    rw [← HW7.out] at hb8
    have HB8 := Lib.hid (HB7.out.trans (hb8.mono HB7.out.size))
    clear a0 a1 a2 g0 g1 g2 r0 r1 r2 hb8
    go_wp2_with fail
    refine (lives_any w8).mono ?_
    rintro e w9 ⟨rfl, hb9⟩
    go_wp2_with fail
    go_ret
    exact ⟨rfl, HB8.out.trans (hb9.mono HB8.out.size)⟩
end Go.Proofs.Ytenbgfejonokdaa

/- The stage's theorem on edits, walked: each key lies in one tablet's stretch. -/
import Derived.Test.YtenbgfejonokdaaEdOneP
import Derived.Test.YtenbgfejonokdaaEdOpen
namespace Go.Proofs.Ytenbgfejonokdaa
set_option linter.unusedSimpArgs false
set_option linter.unusedVariables false
set_option maxRecDepth 100000
open Go.RowKit
attribute [local go_sem ↓] Go.wp_at_zero Go.wp_at_succ

theorem no_bytes {s : ByteArray} (h : s.toList = []) : s = ⟨#[]⟩ := by
  rw [ByteArray.toList_eq] at h
  have := congrArg List.length h
  exact bytes_empty (by simpa using this)
theorem RdT.len {w : World} {x : Option Addr} {n c : Nat} {l : List Ed.Tab} (h : RdT w (.slice x n c) l) : n = l.length := by
  obtain ⟨y, d, e, _⟩ := h
  injection e
theorem RdT.at_ {w : World} {x : Option Addr} {n c : Nat} {l : List Ed.Tab} (h : RdT w (.slice x n c) l) (j : Nat) (hj : j < l.length) : ∃ b off, x = some ⟨b, off, none⟩ ∧ b < w.heap.size ∧ w.cell? ⟨b, off + j * 2, none⟩ = some (.string l[j].frm) := by
  obtain ⟨y, d, e, h⟩ := h
  injection e with e1 _ _
  obtain ⟨b, off, tv, h1, h2, h3, _⟩ := h j hj
  exact ⟨b, off, by rw [e1, h1], h2, h3⟩
theorem applyS_any (tv : Value) (s : Ed.St) (e : Ed.Edit) (fv : Value) (w : World) (h : RdT w tv s.l) (hv : Ed.Valid s) (hfl : RdI w fv e.files) (hok : EdOk e) :
    Calls Try.prog 42 #[stV tv s.log s.next, edV e fv] w fun E w' => ∃ sx sn sc lg3 nx3 okb, E = .returned (.tuple #[stV (.slice sx sn sc) lg3 nx3, .bool okb]) ∧ Below w.heap.size w w' ∧ 
      (okb = true → ∃ l3, Ed.applyP s e = some ⟨l3, lg3, nx3⟩ ∧ RdTB w' w.heap.size (.slice sx sn sc) l3) := by
  refine (apply_any tv s e fv w h (valid_fits hv) hfl hok.files hok.key hok.at_).mono ?_
  rintro E w' ⟨hb, hm⟩
  cases hr : Ed.applyP s e with
  | none => rw [hr] at hm; exact ⟨none, 0, 0, 0, 0, false, hm, hb, fun h => (by cases h)⟩
  | some s2 =>
    rw [hr] at hm
    obtain ⟨t2, rfl, hrd⟩ := hm
    obtain ⟨x, c, rfl, _⟩ := id hrd
    exact ⟨x, _, c, s2.log, s2.next, true, rfl, hb, fun _ => ⟨s2.l, rfl, hrd⟩⟩
set_option maxHeartbeats 8000000 in
theorem walkEditsOne (x : Value × List Ed.Edit) (key : ByteArray) (w : World) (h1 : EdsIn w x) (h2 : key.size ≤ maxLen) :
    Calls Try.prog 10 #[x.1, .string key] w fun e w' => e = .returned (.bool true) ∧ Below w.heap.size w w' := by
  obtain ⟨lv, l⟩ := x
  obtain ⟨hl, hlm, hbd⟩ := h1
  simp only at hl hlm hbd ⊢
  obtain ⟨lx, lc, rfl, _⟩ := id hl
  have HL := Lib.hid hl
  have HBD := Lib.hid hbd
  have HBY := Lib.hid (beyond_any _ l 40 w hl hlm (fun j hj => ⟨(hbd j hj).files, (hbd j hj).key⟩))
  obtain ⟨n, hn⟩ : ∃ n, n = l.length := ⟨_, rfl⟩
  rw [← hn] at hlm HL HBY ⊢
  have Hn := Lib.hid hn
  unfold maxLen at h2 hlm
  clear hl hbd hn
  go_enter Try.func10, Try.ntmps10
  go_wp2_with fail
  refine HBY.out.mono ?_
  rintro e w0 ⟨⟨b, rfl, hsm⟩, rfl⟩
  have HSM := Lib.hid hsm
  clear hsm
  by_cases hb1 : b = 1
  · subst hb1
    go_wp2_with fail
    refine (lives_any w).mono ?_
    rintro e w1 ⟨rfl, hb⟩
    go_wp2_with fail
    go_ret
    exact ⟨rfl, hb⟩
  have hbf : (b == 1) = false := beq_eq_false_iff_ne.2 hb1
  rw [hbf]
  have HS := Lib.hid (HSM.out hb1)
  clear hb1 hbf
  by_cases hk200 : 200 < key.size
  · have hk2 : (200 : Int) < key.size := by omega
    go_wp2_with fail
    refine (lives_any w).mono ?_
    rintro e w1 ⟨rfl, hb⟩
    go_wp2_with fail
    go_ret
    exact ⟨rfl, hb⟩
  have hk2 : ¬ (200 : Int) < key.size := by omega
  have HOK := Lib.hid (show ∀ (j : Nat) (hj : j < l.length), EdOk l[j] from fun j hj => (HBD.out j hj).ok (HS.out.2 j hj).1)
  have hll : n ≤ 1000 := by have := HS.out.1; rw [← Hn.out] at this; omega
  go_wp2_with fail
  refine (first_any w).mono ?_
  rintro e w2 ⟨tv, rfl, hrd, hb2⟩
  obtain ⟨x1, c1, rfl, _⟩ := hrd.rd
  have HB2 := Lib.hid hb2
  have HR2 := Lib.hid hrd.rd
  have hl1 : st0.l.length = 1 := rfl
  rw [hl1] at HR2 ⊢
  unfold stV
  clear hrd hb2 hl1
  go_wp2_with fail
  obtain ⟨w3, hw3⟩ : ∃ w3, w3 = w2.alloc (.cells #[.slice x1 1 c1, .int .i64 1, .int .i64 2] 67 (0, 0)) := ⟨_, rfl⟩
  rw [← hw3]
  obtain ⟨b3, hb3⟩ : ∃ b3, b3 = w2.heap.size := ⟨_, rfl⟩
  have hb23 : Below w2.heap.size w2 w3 := by rw [hw3]; exact (Below.refl _ _).alloc (Nat.le_refl _) _
  have K33 := Lib.hid (show Blk w3 b3 67 #[.slice x1 1 c1, .int .i64 1, .int .i64 2] by rw [hb3, hw3]; exact Blk.alloc_new _ _ _)
  have HB3 := Lib.hid (HB2.out.trans (hb23.mono HB2.out.size))
  have HR3 := Lib.hid (HR2.out.below hb23)
  have hb3l : w.heap.size ≤ b3 := by rw [hb3]; exact HB2.out.size
  rw [← hb3]
  clear hw3 hb23 hb3
  go_loopw [6, 7, 8, 9, 10, 11, 12, 13, 14, 30, 66] (fun v6 _ _ _ _ _ _ _ _ _ _ wr => ∃ (k : Nat) (tv : Value) (st : Ed.St), v6 = .int .i64 k ∧ k ≤ n ∧ Ed.Valid st ∧ Below w.heap.size w wr ∧ Blk wr b3 67 #[tv, .int .i64 st.log, .int .i64 st.next] ∧ RdT wr tv st.l) (fun v6 _ _ _ _ _ _ _ _ _ _ _ => n - (intOf v6).toNat)
  case atStart => exact ⟨0, _, st0, rfl, Nat.zero_le _, valid0, HB3.out, K33.out, HR3.out⟩
  case round =>
    obtain ⟨k, tv, st, rfl, hk, hv, hbe, hk3, hrd⟩ := hrel
    have Hbe := Lib.hid hbe
    have Hk3 := Lib.hid hk3
    have Hrd := Lib.hid hrd
    have Hv := Lib.hid hv
    obtain ⟨tx, tc, htv, _⟩ := hrd
    obtain ⟨tn, htn⟩ : ∃ tn, tn = st.l.length := ⟨_, rfl⟩
    rw [← htn] at htv
    have HTN := Lib.hid htn
    subst htv
    obtain ⟨sl, log, next⟩ := st
    simp only at Hk3 Hrd
    obtain ⟨a0, a1, a2, g0, g1, g2⟩ := blk3 Hk3.out
    clear hv hbe hk3 htn
    by_cases hlt : k < n
    · have hkl : k < l.length := by rw [← Hn.out]; exact hlt
      have hll2 := HL.out
      rw [Hn.out] at hll2
      obtain ⟨eb, eo, fv, rfl, heb, hfl, hcell⟩ := hll2.at_ k hkl
      obtain ⟨e, he⟩ : ∃ e, e = l[k] := ⟨_, rfl⟩
      have hok := HOK.out k hkl
      rw [← he] at hfl hcell hok
      have HE := Lib.hid he
      obtain ⟨fx, fc, hfv, _⟩ := hfl.form
      obtain ⟨fn, hfn⟩ : ∃ fn, fn = e.files.length := ⟨_, rfl⟩
      rw [← hfn] at hfv
      subst hfv
      have HFL := Lib.hid hfl
      have HOKk := Lib.hid hok
      have HCL := Lib.hid hcell
      have HFN := Lib.hid hfn
      obtain ⟨kind, at_, file, files, ekey⟩ := e
      simp only at HFL HOKk HCL HFN
      have hk0 : (0 : Int) ≤ k := by omega
      have hkn : (k : Int) < n := by omega
      have Hlt := Lib.hid hlt
      clear he hfn hfl hok hcell hll2
      go_wp2_with fail
      refine wp_region_two (T := fun _ => True) (S := fun W => S8 W b3 (.slice tx tn tc) log next eb (eo + k * 5) kind at_ file (.slice fx fn fc) ekey) (n := 10) (by kernel_rfl) ?_
      obtain ⟨w5, hw5⟩ : ∃ w5, w5 = wr.drew := ⟨_, rfl⟩
      rw [← hw5]
      have hb5 : Below wr.heap.size wr w5 := by rw [hw5]; exact (Below.refl _ _).drew
      have HB5 := Lib.hid (Hbe.out.trans (hb5.mono Hbe.out.size))
      have hT : True := trivial
      have hS : S8 w5 b3 (.slice tx tn tc) log next eb (eo + k * 5) kind at_ file (.slice fx fn fc) ekey := ⟨by rw [hw5]; exact ⟨a0, a1, a2⟩, HCL.out w5 HB5.out⟩
      have hl0 : b3 < w5.heap.size := (Hk3.out.below hb5).lt
      have hl1 : eb < w5.heap.size := by have := HB5.out.size; omega
      have Hk35 := Lib.hid (Hk3.out.below hb5)
      have Hrd5 := Lib.hid (Hrd.out.below hb5)
      have HAP := Lib.hid (fun (W : World) (hW : Below w5.heap.size w5 W) => applyS_any (.slice tx tn tc) ⟨sl, log, next⟩ ⟨kind, at_, file, files, ekey⟩ (.slice fx fn fc) W (Hrd5.out.below hW) Hv.out (HFL.out.below (HB5.out.trans (hW.mono HB5.out.size))) HOKk.out)
      unfold edV stV at HAP
      simp only at HAP
      have hS8 := hS
      unfold S8 at hS
      obtain ⟨⟨s0, s1, s2⟩, s3, s4, s5, s6, s7⟩ := id hS
      clear hw5 hb5 a0 a1 a2 g0 g1 g2
      refine two_take 0 (some 31) (v := ?_) rfl rfl (by kernel_rfl) (by kernel_rfl) (by kernel_rfl) (by kernel_rfl) (by decide) (by kernel_rfl) (fun _ _ _ h => h) (Or.inl ⟨by rfl, ?hy0⟩) hT hS ?_
      case hy0 => (intro w' hS'; (try unfold S8 at hS'); go_simp; (try with_reducible rfl))
      try simp only [Act.put, List.setIfInBounds_toArray, List.set_cons_zero, List.set_cons_succ]
      refine two_takeT 1 (some 32) (v := ?_) rfl rfl (by kernel_rfl) (by kernel_rfl) (by kernel_rfl) (by decide) (fun _ _ _ h => h) (Or.inl ⟨by rfl, ?hy1⟩) hT hS ?_
      case hy1 => (intro w' hT'; go_simp; (try with_reducible rfl))
      try simp only [Act.put, List.setIfInBounds_toArray, List.set_cons_zero, List.set_cons_succ]
      refine two_takeT 2 (some 33) (v := ?_) rfl rfl (by kernel_rfl) (by kernel_rfl) (by kernel_rfl) (by decide) (fun _ _ _ h => h) (Or.inl ⟨by rfl, ?hy2⟩) hT hS ?_
      case hy2 => (intro w' hT'; go_simp; (try with_reducible rfl))
      try simp only [Act.put, List.setIfInBounds_toArray, List.set_cons_zero, List.set_cons_succ]
      refine two_takeT 3 (some 34) (v := ?_) rfl rfl (by kernel_rfl) (by kernel_rfl) (by kernel_rfl) (by decide) (fun _ _ _ h => h) (Or.inl ⟨by rfl, ?hy3⟩) hT hS ?_
      case hy3 => (intro w' hT'; go_simp; (try with_reducible rfl))
      try simp only [Act.put, List.setIfInBounds_toArray, List.set_cons_zero, List.set_cons_succ]
      refine two_take 4 (some 35) (v := ?_) rfl rfl (by kernel_rfl) (by kernel_rfl) (by kernel_rfl) (by kernel_rfl) (by decide) (by kernel_rfl) (fun _ _ _ h => h) (Or.inl ⟨by rfl, ?hy4⟩) hT hS ?_
      case hy4 => (intro w' hS'; (try unfold S8 at hS'); go_simp; (try with_reducible rfl))
      try simp only [Act.put, List.setIfInBounds_toArray, List.set_cons_zero, List.set_cons_succ]
      refine two_two 5 9 rfl rfl (by kernel_rfl) ?_ ?_
      · intro K hK
        go_simp
        refine (HAP.out w5 (Below.refl _ _)).mono ?_
        rintro e w6 ⟨sx, sn, sc, lg3, nx3, okb, rfl, hb6, ht6⟩
        have HT6 := Lib.hid ht6
        have hS6 : S8 w6 b3 (.slice tx tn tc) log next eb (eo + k * 5) kind at_ file (.slice fx fn fc) ekey := S8.below hS8 hb6 hl0 hl1
        have hsz6 := hb6.size
        clear ht6
        refine hK.out _ _ trivial (fun _ _ => hS6) ?_
        clear hK K hS
        have hS := hS6
        try simp only [Act.put, List.setIfInBounds_toArray, List.set_cons_zero, List.set_cons_succ]
        refine two_takeT 6 (some 30) (v := ?_) rfl rfl (by kernel_rfl) (by kernel_rfl) (by kernel_rfl) (by decide) (fun _ _ _ h => h) (Or.inl ⟨by rfl, ?hy6⟩) hT hS ?_
        case hy6 => (intro w' hT'; go_simp; (try with_reducible rfl))
        try simp only [Act.put, List.setIfInBounds_toArray, List.set_cons_zero, List.set_cons_succ]
        refine two_takeT 7 (some 37) (v := ?_) rfl rfl (by kernel_rfl) (by kernel_rfl) (by kernel_rfl) (by decide) (fun _ _ _ h => h) (Or.inl ⟨by rfl, ?hy7⟩) hT hS ?_
        case hy7 => (intro w' hT'; go_simp; (try with_reducible rfl))
        try simp only [Act.put, List.setIfInBounds_toArray, List.set_cons_zero, List.set_cons_succ]
        refine two_takeT 8 (some 38) (v := ?_) rfl rfl (by kernel_rfl) (by kernel_rfl) (by kernel_rfl) (by decide) (fun _ _ _ h => h) (Or.inl ⟨by rfl, ?hy8⟩) hT hS ?_
        case hy8 => (intro w' hT'; go_simp; (try with_reducible rfl))
        try simp only [Act.put, List.setIfInBounds_toArray, List.set_cons_zero, List.set_cons_succ]
        refine two_one 9 rfl (by kernel_rfl) ?_
        intro K hK
        go_simp
        obtain ⟨w7, hw7⟩ : ∃ w7, w7 = w6.alloc (.cells #[.slice none 0 0, .int .i64 0, .int .i64 0] 67 (0, 0)) := ⟨_, rfl⟩
        rw [← hw7]
        obtain ⟨q, hq⟩ : ∃ q, q = w6.heap.size := ⟨_, rfl⟩
        rw [← hq]
        have hb7 : Below w6.heap.size w6 w7 := by rw [hw7]; exact (Below.refl _ _).alloc (Nat.le_refl _) _
        have hbq : Blk w7 q 67 #[.slice none 0 0, .int .i64 0, .int .i64 0] := by rw [hq, hw7]; exact Blk.alloc_new _ _ _
        have hlq : b3 < q := by omega
        have hqq := Nat.le_of_eq hq.symm
        clear hq
        have hS7 : S8 w7 b3 (.slice tx tn tc) log next eb (eo + k * 5) kind at_ file (.slice fx fn fc) ekey := S8.below hS6 hb7 (by omega) (by omega)
        refine hK.out _ _ trivial (fun _ _ => hS7) ?_
        clear hK K hS hS6 hw7
        try simp only [Act.put, List.setIfInBounds_toArray, List.set_cons_zero, List.set_cons_succ]
        obtain ⟨_, _, _, g0, g1, g2⟩ := blk3 hbq
        refine two_one 10 rfl (by kernel_rfl) ?_
        intro K hK
        go_simp
        obtain ⟨w9, hw9⟩ : ∃ w9, w9 = ((w7.setCell ⟨q, 0, none⟩ (.slice sx sn sc)).setCell ⟨q, 1, none⟩ (.int .i64 lg3)).setCell ⟨q, 2, none⟩ (.int .i64 nx3) := ⟨_, rfl⟩
        rw [← hw9]
        obtain ⟨z1, z2⟩ := three_set hbq w9 hw9
        have KQ := Lib.hid z1
        have hb69 := hb7.trans (z2.below hb7.size fun g hg e => by omega)
        have Hb59 := Lib.hid (hb6.trans (hb69.mono hsz6))
        have HTR := Lib.hid (show okb = true → ∃ l3, Ed.applyP ⟨sl, log, next⟩ ⟨kind, at_, file, files, ekey⟩ = some ⟨l3, lg3, nx3⟩ ∧ RdTB w9 (b3 + 1) (.slice sx sn sc) l3 from fun h => (HT6.out h).imp fun l3 h3 => ⟨h3.1, (h3.2.chg (S := fun _ => False) (Chg.of_below hb69) (fun _ h => h.elim)).weak (show b3 + 1 ≤ _ by omega)⟩)
        have Hsm := Lib.hid hlq
        clear hw9 hbq g0 g1 g2 hS7 hb6 hb7 hb69 z1 z2
        refine hK.out _ _ trivial (fun _ e => absurd rfl e) ?_
        clear hK K
        try simp only [Act.put, List.setIfInBounds_toArray, List.set_cons_zero, List.set_cons_succ]
        refine two_one 11 rfl (by kernel_rfl) ?_
        intro K hK
        go_simp
        refine hK.out _ _ trivial (fun e _ => two_past e (by kernel_rfl)) ?_
        clear hK K
        try simp only [Act.put, List.setIfInBounds_toArray, List.set_cons_zero, List.set_cons_succ]
        refine two_done (by kernel_rfl) ?_ _
        obtain ⟨ga, gb, gc, _⟩ := blk3 KQ.out
        have HB9 := Lib.hid (HB5.out.trans (Hb59.out.mono HB5.out.size))
        have Hk39 := Lib.hid (Hk35.out.below Hb59.out)
        have Hrd9 := Lib.hid (Hrd5.out.below Hb59.out)
        cases okb with
        | false =>
          go_wp2_with fail
          go_roundw
          case rel => exact ⟨k + 1, _, ⟨sl, log, next⟩, by go_num, by have := Hlt.out; omega, Hv.out, HB9.out, Hk39.out, Hrd9.out⟩
          case measure => simp [intOf]; omega
        | true =>
          obtain ⟨l3, hl3, hrd3⟩ := HTR.out rfl
          have HL3 := Lib.hid hl3
          have HRD3 := Lib.hid hrd3
          have Hv3 := Lib.hid (apply_out hl3).2.2
          have hup := does_up (apply_out hl3).1 (apply_out hl3).2.1
          simp only at hup
          have hup1 : ¬ nx3 < next := by omega
          have hup2 : ¬ lg3 < log := by omega
          have HCK := Lib.hid (check_any (.slice sx sn sc) ⟨l3, lg3, nx3⟩ w9 hrd3.rd (valid_fits Hv3.out))
          rw [Ed.validB_true Hv3.out] at HCK
          unfold stV at HCK
          simp only at HCK
          obtain ⟨_, _, _, g0, g1, g2⟩ := blk3 Hk39.out
          clear hl3 hrd3 hup
          go_wp2_with fail
          refine HCK.out.mono ?_
          rintro e w10 ⟨rfl, hb10⟩
          have Hk310 := Lib.hid (Hk39.out.below hb10)
          have KQ10 := Lib.hid (KQ.out.below hb10)
          have HB10 := Lib.hid (HB9.out.trans (hb10.mono HB9.out.size))
          have HR10 := Lib.hid (HRD3.out.chg (S := fun _ => False) (Chg.of_below hb10) (fun _ h => h.elim))
          clear g0 g1 g2 ga gb gc hb10
          obtain ⟨ga, gb, gc, _⟩ := blk3 KQ10.out
          obtain ⟨r0, r1, r2, g0, g1, g2⟩ := blk3 Hk310.out
          go_wp2_with fail
          obtain ⟨w11, hw11⟩ : ∃ w11, w11 = ((w10.setCell ⟨b3, 0, none⟩ (.slice sx sn sc)).setCell ⟨b3, 1, none⟩ (.int .i64 lg3)).setCell ⟨b3, 2, none⟩ (.int .i64 nx3) := ⟨_, rfl⟩
          rw [← hw11]
          obtain ⟨z1, z2⟩ := three_set Hk310.out w11 hw11
          have HK11 := Lib.hid z1
          have HB11 := Lib.hid (HB10.out.trans (z2.below HB10.out.size fun g hg e => by omega))
          have HR11 := Lib.hid (HR10.out.chg z2 (fun g e => by omega)).rd
          clear hw11 z1 z2 g0 g1 g2 ga gb gc r0 r1 r2
          obtain ⟨r, hr⟩ := findAt_some Hv3.out key
          have HFA := Lib.hid hr
          have hsn := HR11.out.len
          have HM := Lib.hid hsn
          have hrm : r < sn := by rw [hsn]; exact HFA.out.1
          have hm16 : sn ≤ 16 := by rw [hsn]; exact Hv3.out.few
          have Hm16 := Lib.hid hm16
          clear hr hsn hm16 HTR HCK HRD3 HR10
          go_wp2_with fail
          go_loopw [9, 10, 11, 12, 13, 14, 66] (fun v9 v10 v11 _ _ _ _ wi => ∃ (i : Nat), v11 = .int .i64 i ∧ i ≤ sn ∧ v9 = .int .i64 (if r < i then 1 else 0) ∧ v10 = .int .i64 (if r < i then r else -1) ∧ Below w.heap.size w wi ∧ Blk wi b3 67 #[.slice sx sn sc, .int .i64 lg3, .int .i64 nx3] ∧ RdT wi (.slice sx sn sc) l3) (fun _ _ v11 _ _ _ _ _ => sn - (intOf v11).toNat)
          case atStart => exact ⟨0, rfl, Nat.zero_le _, rfl, rfl, HB11.out, HK11.out, HR11.out⟩
          case round =>
            obtain ⟨i, rfl, hi, rfl, rfl, hbi, hki, hri⟩ := hrel
            have Hbi := Lib.hid hbi
            have Hki := Lib.hid hki
            have Hri := Lib.hid hri
            obtain ⟨a0, a1, a2, _⟩ := blk3 hki
            clear hbi hki hri
            have him : sn ≤ 16 := Hm16.out
            obtain ⟨many, hmany⟩ : ∃ many : Int, many = (if r < i then 1 else 0) := ⟨_, rfl⟩
            obtain ⟨att, hatt⟩ : ∃ att : Int, att = (if r < i then (r : Int) else -1) := ⟨_, rfl⟩
            rw [← hmany, ← hatt]
            have hm0 : 0 ≤ many := by rw [hmany]; split <;> omega
            have hm1 : many ≤ 1 := by rw [hmany]; split <;> omega
            have Hmany := Lib.hid hmany
            have Hatt := Lib.hid hatt
            clear hmany hatt
            by_cases hil : i < sn
            · have hil3 : i < l3.length := by rw [← HM.out]; exact hil
              obtain ⟨ub, uo, hub, hubl, hcf⟩ := Hri.out.at_ i hil3
              subst hub
              have HST := Lib.hid (stretch_any (.slice (some ⟨ub, uo, none⟩) sn sc) ⟨l3, lg3, nx3⟩ i wr Hri.out (valid_fits Hv3.out))
              obtain ⟨hs1, hs2⟩ := stretch_in Hv3.out i hil3
              have HWH := Lib.hid (stretch_find Hv3.out key i hil3)
              rw [hs1, hs2] at HST
              rw [hs1] at HWH
              try simp only at hs1 hs2 HWH HST hcf
              obtain ⟨f, hf⟩ : ∃ f, f = l3[i].frm := ⟨_, rfl⟩
              rw [← hf] at hcf HST HWH
              obtain ⟨to, hto⟩ : ∃ to, to = (stretchS ⟨l3, lg3, nx3⟩ i).2.1 := ⟨_, rfl⟩
              rw [← hto] at HST HWH
              unfold stV at HST
              try simp only at HST
              have HCF := Lib.hid hcf
              have hi0 : (0 : Int) ≤ i := by omega
              have him2 : (i : Int) < sn := by omega
              clear hf hto hs1 hs2 hcf
              go_wp2_with fail
              refine HST.out.mono ?_
              rintro e w12 ⟨rfl, hb12⟩
              have Hki2 := Lib.hid (Hki.out.below hb12)
              have Hri2 := Lib.hid (Hri.out.below hb12)
              have Hbi2 := Lib.hid (Hbi.out.trans (hb12.mono Hbi.out.size))
              have hcf2 := (hb12.cell (p := ⟨ub, _, none⟩) hubl).trans HCF.out
              clear a0 a1 a2 hb12
              obtain ⟨a0, a1, a2, _⟩ := blk3 Hki2.out
              have HWI := Lib.hid (show i = r ↔ ¬ Op.bytesLess key.toList f.toList = true ∧ (to.toList = [] ∨ Op.bytesLess key.toList to.toList = true) from by
                have h := HWH.out
                unfold Ed.lt at h
                constructor
                · intro e
                  have h2 := h.2 (e ▸ HFA.out)
                  refine ⟨by rw [h2.1]; simp, h2.2.imp (fun e => by rw [e, ByteArray.toList_eq]) id⟩
                · intro ⟨h1, h2⟩
                  refine findAt_unique Hv3.out (h.1 ⟨by simpa using h1, h2.imp (fun e => no_bytes e) id⟩) HFA.out)
              by_cases hb1 : Op.bytesLess key.toList f.toList = true
              · have HN := Lib.hid (show i ≠ r from fun e => (HWI.out.1 e).1 hb1)
                go_wp2_with fail
                go_roundw
                case rel => exact ⟨i + 1, by go_num, by omega, by rw [Hmany.out]; have := HN.out; congr 1; split <;> split <;> omega, by rw [Hatt.out]; have := HN.out; congr 1; split <;> split <;> omega, Hbi2.out, Hki2.out, Hri2.out⟩
                case measure => simp [intOf]; omega
              by_cases hb2 : to.toList = []
              · have HN := Lib.hid (show i = r from HWI.out.2 ⟨hb1, .inl hb2⟩)
                have hb2' : to.toList.isEmpty = true := by rw [hb2]; rfl
                go_wp2_with fail
                go_roundw
                case rel => exact ⟨i + 1, by go_num, by omega, by rw [Hmany.out]; have := HN.out; congr 1; rw [if_neg (by omega), if_pos (by omega)]; rfl, by have := HN.out; congr 1; rw [if_pos (by omega)]; omega, Hbi2.out, Hki2.out, Hri2.out⟩
                case measure => simp [intOf]; omega
              have hb2' : to.toList.isEmpty = false := by rw [List.isEmpty_eq_false_iff]; exact hb2
              by_cases hb3 : Op.bytesLess key.toList to.toList = true
              · have HN := Lib.hid (show i = r from HWI.out.2 ⟨hb1, .inr hb3⟩)
                go_wp2_with fail
                go_roundw
                case rel => exact ⟨i + 1, by go_num, by omega, by rw [Hmany.out]; have := HN.out; congr 1; rw [if_neg (by omega), if_pos (by omega)]; rfl, by have := HN.out; congr 1; rw [if_pos (by omega)]; omega, Hbi2.out, Hki2.out, Hri2.out⟩
                case measure => simp [intOf]; omega
              · have HN := Lib.hid (show i ≠ r from fun e => (HWI.out.1 e).2.elim hb2 hb3)
                have hb3' : Op.bytesLess key.toList to.toList = false := by simpa using hb3
                go_wp2_with fail
                go_roundw
                case rel => exact ⟨i + 1, by go_num, by omega, by rw [Hmany.out]; have := HN.out; congr 1; split <;> split <;> omega, by rw [Hatt.out]; have := HN.out; congr 1; split <;> split <;> omega, Hbi2.out, Hki2.out, Hri2.out⟩
                case measure => simp [intOf]; omega
            · obtain rfl : i = sn := by omega
              rw [if_pos hrm] at Hmany Hatt
              have e1 := Hmany.out
              have e2 := Hatt.out
              subst e1 e2
              have HFI := Lib.hid (find_any (.slice sx i sc) ⟨l3, lg3, nx3⟩ key wr Hri.out (valid_fits Hv3.out))
              rw [findI_eq Hv3.out HFA.out] at HFI
              unfold stV at HFI
              try simp only at HFI
              go_wp2_with fail
              refine HFI.out.mono ?_
              rintro e w12 ⟨rfl, hb12⟩
              have Hki2 := Lib.hid (Hki.out.below hb12)
              have Hri2 := Lib.hid (Hri.out.below hb12)
              have Hbi2 := Lib.hid (Hbi.out.trans (hb12.mono Hbi.out.size))
              clear a0 a1 a2 hb12
              go_wp2_with fail
              go_roundw
              case rel => exact ⟨k + 1, _, ⟨l3, lg3, nx3⟩, by go_num, by have := Hlt.out; omega, Hv3.out, Hbi2.out, Hki2.out, Hri2.out⟩
              case measure => simp [intOf]; omega
      · intro K hK
        go_simp
        obtain ⟨w6, hw6⟩ : ∃ w6, w6 = w5.alloc (.cells #[.slice none 0 0, .int .i64 0, .int .i64 0] 67 (0, 0)) := ⟨_, rfl⟩
        rw [← hw6]
        obtain ⟨q, hq⟩ : ∃ q, q = w5.heap.size := ⟨_, rfl⟩
        rw [← hq]
        have hb6 : Below w5.heap.size w5 w6 := by rw [hw6]; exact (Below.refl _ _).alloc (Nat.le_refl _) _
        have hbq : Blk w6 q 67 #[.slice none 0 0, .int .i64 0, .int .i64 0] := by rw [hq, hw6]; exact Blk.alloc_new _ _ _
        have hlq : b3 < q := by omega
        have hqq := Nat.le_of_eq hq.symm
        clear hq
        have hqlt := hbq.lt
        have hS6 : S8 w6 b3 (.slice tx tn tc) log next eb (eo + k * 5) kind at_ file (.slice fx fn fc) ekey := S8.below hS8 hb6 hl0 hl1
        refine hK.out _ _ trivial (fun _ _ => hS6) ?_
        clear hK K hS hw6
        try simp only [Act.put, List.setIfInBounds_toArray, List.set_cons_zero, List.set_cons_succ]
        refine two_one 5 rfl (by kernel_rfl) ?_
        intro K hK
        go_simp
        refine (HAP.out w6 hb6).mono ?_
        rintro e w7 ⟨sx, sn, sc, lg3, nx3, okb, rfl, hb7, ht6⟩
        have HT6 := Lib.hid ht6
        have hS7 : S8 w7 b3 (.slice tx tn tc) log next eb (eo + k * 5) kind at_ file (.slice fx fn fc) ekey := S8.below hS6 hb7 (by have := hb6.size; omega) (by have := hb6.size; omega)
        have hbq7 := hbq.below hb7
        clear ht6
        refine hK.out _ _ trivial (fun _ _ => hS7) ?_
        clear hK K hbq
        have hS := hS7
        try simp only [Act.put, List.setIfInBounds_toArray, List.set_cons_zero, List.set_cons_succ]
        refine two_takeT 6 (some 30) (v := ?_) rfl rfl (by kernel_rfl) (by kernel_rfl) (by kernel_rfl) (by decide) (fun _ _ _ h => h) (Or.inl ⟨by rfl, ?hy6⟩) hT hS ?_
        case hy6 => (intro w' hT'; go_simp; (try with_reducible rfl))
        try simp only [Act.put, List.setIfInBounds_toArray, List.set_cons_zero, List.set_cons_succ]
        refine two_takeT 7 (some 37) (v := ?_) rfl rfl (by kernel_rfl) (by kernel_rfl) (by kernel_rfl) (by decide) (fun _ _ _ h => h) (Or.inl ⟨by rfl, ?hy7⟩) hT hS ?_
        case hy7 => (intro w' hT'; go_simp; (try with_reducible rfl))
        try simp only [Act.put, List.setIfInBounds_toArray, List.set_cons_zero, List.set_cons_succ]
        refine two_takeT 8 (some 38) (v := ?_) rfl rfl (by kernel_rfl) (by kernel_rfl) (by kernel_rfl) (by decide) (fun _ _ _ h => h) (Or.inl ⟨by rfl, ?hy8⟩) hT hS ?_
        case hy8 => (intro w' hT'; go_simp; (try with_reducible rfl))
        try simp only [Act.put, List.setIfInBounds_toArray, List.set_cons_zero, List.set_cons_succ]
        obtain ⟨_, _, _, g0, g1, g2⟩ := blk3 hbq7
        refine two_one 10 rfl (by kernel_rfl) ?_
        intro K hK
        go_simp
        obtain ⟨w9, hw9⟩ : ∃ w9, w9 = ((w7.setCell ⟨q, 0, none⟩ (.slice sx sn sc)).setCell ⟨q, 1, none⟩ (.int .i64 lg3)).setCell ⟨q, 2, none⟩ (.int .i64 nx3) := ⟨_, rfl⟩
        rw [← hw9]
        obtain ⟨z1, z2⟩ := three_set hbq7 w9 hw9
        have KQ := Lib.hid z1
        have hb57 := hb6.trans (hb7.mono hb6.size)
        have Hb59 := Lib.hid (hb57.trans (z2.below hb57.size fun g hg e => by omega))
        have HTR := Lib.hid (show okb = true → ∃ l3, Ed.applyP ⟨sl, log, next⟩ ⟨kind, at_, file, files, ekey⟩ = some ⟨l3, lg3, nx3⟩ ∧ RdTB w9 (b3 + 1) (.slice sx sn sc) l3 from fun h => (HT6.out h).imp fun l3 h3 => ⟨h3.1, (h3.2.chg z2 (fun g e => by omega)).weak (show b3 + 1 ≤ _ by omega)⟩)
        clear hw9 hbq7 g0 g1 g2 hS7 hS6 hS hb6 hb7 hb57 z1 z2
        refine hK.out _ _ trivial (fun _ e => absurd rfl e) ?_
        clear hK K
        try simp only [Act.put, List.setIfInBounds_toArray, List.set_cons_zero, List.set_cons_succ]
        refine two_one 11 rfl (by kernel_rfl) ?_
        intro K hK
        go_simp
        refine hK.out _ _ trivial (fun e _ => two_past e (by kernel_rfl)) ?_
        clear hK K
        try simp only [Act.put, List.setIfInBounds_toArray, List.set_cons_zero, List.set_cons_succ]
        refine two_done (by kernel_rfl) ?_ _
        obtain ⟨ga, gb, gc, _⟩ := blk3 KQ.out
        have HB9 := Lib.hid (HB5.out.trans (Hb59.out.mono HB5.out.size))
        have Hk39 := Lib.hid (Hk35.out.below Hb59.out)
        have Hrd9 := Lib.hid (Hrd5.out.below Hb59.out)
        cases okb with
        | false =>
          go_wp2_with fail
          go_roundw
          case rel => exact ⟨k + 1, _, ⟨sl, log, next⟩, by go_num, by have := Hlt.out; omega, Hv.out, HB9.out, Hk39.out, Hrd9.out⟩
          case measure => simp [intOf]; omega
        | true =>
          obtain ⟨l3, hl3, hrd3⟩ := HTR.out rfl
          have HL3 := Lib.hid hl3
          have HRD3 := Lib.hid hrd3
          have Hv3 := Lib.hid (apply_out hl3).2.2
          have hup := does_up (apply_out hl3).1 (apply_out hl3).2.1
          simp only at hup
          have hup1 : ¬ nx3 < next := by omega
          have hup2 : ¬ lg3 < log := by omega
          have HCK := Lib.hid (check_any (.slice sx sn sc) ⟨l3, lg3, nx3⟩ w9 hrd3.rd (valid_fits Hv3.out))
          rw [Ed.validB_true Hv3.out] at HCK
          unfold stV at HCK
          simp only at HCK
          obtain ⟨_, _, _, g0, g1, g2⟩ := blk3 Hk39.out
          clear hl3 hrd3 hup
          go_wp2_with fail
          refine HCK.out.mono ?_
          rintro e w10 ⟨rfl, hb10⟩
          have Hk310 := Lib.hid (Hk39.out.below hb10)
          have KQ10 := Lib.hid (KQ.out.below hb10)
          have HB10 := Lib.hid (HB9.out.trans (hb10.mono HB9.out.size))
          have HR10 := Lib.hid (HRD3.out.chg (S := fun _ => False) (Chg.of_below hb10) (fun _ h => h.elim))
          clear g0 g1 g2 ga gb gc hb10
          obtain ⟨ga, gb, gc, _⟩ := blk3 KQ10.out
          obtain ⟨r0, r1, r2, g0, g1, g2⟩ := blk3 Hk310.out
          go_wp2_with fail
          obtain ⟨w11, hw11⟩ : ∃ w11, w11 = ((w10.setCell ⟨b3, 0, none⟩ (.slice sx sn sc)).setCell ⟨b3, 1, none⟩ (.int .i64 lg3)).setCell ⟨b3, 2, none⟩ (.int .i64 nx3) := ⟨_, rfl⟩
          rw [← hw11]
          obtain ⟨z1, z2⟩ := three_set Hk310.out w11 hw11
          have HK11 := Lib.hid z1
          have HB11 := Lib.hid (HB10.out.trans (z2.below HB10.out.size fun g hg e => by omega))
          have HR11 := Lib.hid (HR10.out.chg z2 (fun g e => by omega)).rd
          clear hw11 z1 z2 g0 g1 g2 ga gb gc r0 r1 r2
          obtain ⟨r, hr⟩ := findAt_some Hv3.out key
          have HFA := Lib.hid hr
          have hsn := HR11.out.len
          have HM := Lib.hid hsn
          have hrm : r < sn := by rw [hsn]; exact HFA.out.1
          have hm16 : sn ≤ 16 := by rw [hsn]; exact Hv3.out.few
          have Hm16 := Lib.hid hm16
          clear hr hsn hm16 HTR HCK HRD3 HR10
          go_wp2_with fail
          go_loopw [9, 10, 11, 12, 13, 14, 66] (fun v9 v10 v11 _ _ _ _ wi => ∃ (i : Nat), v11 = .int .i64 i ∧ i ≤ sn ∧ v9 = .int .i64 (if r < i then 1 else 0) ∧ v10 = .int .i64 (if r < i then r else -1) ∧ Below w.heap.size w wi ∧ Blk wi b3 67 #[.slice sx sn sc, .int .i64 lg3, .int .i64 nx3] ∧ RdT wi (.slice sx sn sc) l3) (fun _ _ v11 _ _ _ _ _ => sn - (intOf v11).toNat)
          case atStart => exact ⟨0, rfl, Nat.zero_le _, rfl, rfl, HB11.out, HK11.out, HR11.out⟩
          case round =>
            obtain ⟨i, rfl, hi, rfl, rfl, hbi, hki, hri⟩ := hrel
            have Hbi := Lib.hid hbi
            have Hki := Lib.hid hki
            have Hri := Lib.hid hri
            obtain ⟨a0, a1, a2, _⟩ := blk3 hki
            clear hbi hki hri
            have him : sn ≤ 16 := Hm16.out
            obtain ⟨many, hmany⟩ : ∃ many : Int, many = (if r < i then 1 else 0) := ⟨_, rfl⟩
            obtain ⟨att, hatt⟩ : ∃ att : Int, att = (if r < i then (r : Int) else -1) := ⟨_, rfl⟩
            rw [← hmany, ← hatt]
            have hm0 : 0 ≤ many := by rw [hmany]; split <;> omega
            have hm1 : many ≤ 1 := by rw [hmany]; split <;> omega
            have Hmany := Lib.hid hmany
            have Hatt := Lib.hid hatt
            clear hmany hatt
            by_cases hil : i < sn
            · have hil3 : i < l3.length := by rw [← HM.out]; exact hil
              obtain ⟨ub, uo, hub, hubl, hcf⟩ := Hri.out.at_ i hil3
              subst hub
              have HST := Lib.hid (stretch_any (.slice (some ⟨ub, uo, none⟩) sn sc) ⟨l3, lg3, nx3⟩ i wr Hri.out (valid_fits Hv3.out))
              obtain ⟨hs1, hs2⟩ := stretch_in Hv3.out i hil3
              have HWH := Lib.hid (stretch_find Hv3.out key i hil3)
              rw [hs1, hs2] at HST
              rw [hs1] at HWH
              try simp only at hs1 hs2 HWH HST hcf
              obtain ⟨f, hf⟩ : ∃ f, f = l3[i].frm := ⟨_, rfl⟩
              rw [← hf] at hcf HST HWH
              obtain ⟨to, hto⟩ : ∃ to, to = (stretchS ⟨l3, lg3, nx3⟩ i).2.1 := ⟨_, rfl⟩
              rw [← hto] at HST HWH
              unfold stV at HST
              try simp only at HST
              have HCF := Lib.hid hcf
              have hi0 : (0 : Int) ≤ i := by omega
              have him2 : (i : Int) < sn := by omega
              clear hf hto hs1 hs2 hcf
              go_wp2_with fail
              refine HST.out.mono ?_
              rintro e w12 ⟨rfl, hb12⟩
              have Hki2 := Lib.hid (Hki.out.below hb12)
              have Hri2 := Lib.hid (Hri.out.below hb12)
              have Hbi2 := Lib.hid (Hbi.out.trans (hb12.mono Hbi.out.size))
              have hcf2 := (hb12.cell (p := ⟨ub, _, none⟩) hubl).trans HCF.out
              clear a0 a1 a2 hb12
              obtain ⟨a0, a1, a2, _⟩ := blk3 Hki2.out
              have HWI := Lib.hid (show i = r ↔ ¬ Op.bytesLess key.toList f.toList = true ∧ (to.toList = [] ∨ Op.bytesLess key.toList to.toList = true) from by
                have h := HWH.out
                unfold Ed.lt at h
                constructor
                · intro e
                  have h2 := h.2 (e ▸ HFA.out)
                  refine ⟨by rw [h2.1]; simp, h2.2.imp (fun e => by rw [e, ByteArray.toList_eq]) id⟩
                · intro ⟨h1, h2⟩
                  refine findAt_unique Hv3.out (h.1 ⟨by simpa using h1, h2.imp (fun e => no_bytes e) id⟩) HFA.out)
              by_cases hb1 : Op.bytesLess key.toList f.toList = true
              · have HN := Lib.hid (show i ≠ r from fun e => (HWI.out.1 e).1 hb1)
                go_wp2_with fail
                go_roundw
                case rel => exact ⟨i + 1, by go_num, by omega, by rw [Hmany.out]; have := HN.out; congr 1; split <;> split <;> omega, by rw [Hatt.out]; have := HN.out; congr 1; split <;> split <;> omega, Hbi2.out, Hki2.out, Hri2.out⟩
                case measure => simp [intOf]; omega
              by_cases hb2 : to.toList = []
              · have HN := Lib.hid (show i = r from HWI.out.2 ⟨hb1, .inl hb2⟩)
                have hb2' : to.toList.isEmpty = true := by rw [hb2]; rfl
                go_wp2_with fail
                go_roundw
                case rel => exact ⟨i + 1, by go_num, by omega, by rw [Hmany.out]; have := HN.out; congr 1; rw [if_neg (by omega), if_pos (by omega)]; rfl, by have := HN.out; congr 1; rw [if_pos (by omega)]; omega, Hbi2.out, Hki2.out, Hri2.out⟩
                case measure => simp [intOf]; omega
              have hb2' : to.toList.isEmpty = false := by rw [List.isEmpty_eq_false_iff]; exact hb2
              by_cases hb3 : Op.bytesLess key.toList to.toList = true
              · have HN := Lib.hid (show i = r from HWI.out.2 ⟨hb1, .inr hb3⟩)
                go_wp2_with fail
                go_roundw
                case rel => exact ⟨i + 1, by go_num, by omega, by rw [Hmany.out]; have := HN.out; congr 1; rw [if_neg (by omega), if_pos (by omega)]; rfl, by have := HN.out; congr 1; rw [if_pos (by omega)]; omega, Hbi2.out, Hki2.out, Hri2.out⟩
                case measure => simp [intOf]; omega
              · have HN := Lib.hid (show i ≠ r from fun e => (HWI.out.1 e).2.elim hb2 hb3)
                have hb3' : Op.bytesLess key.toList to.toList = false := by simpa using hb3
                go_wp2_with fail
                go_roundw
                case rel => exact ⟨i + 1, by go_num, by omega, by rw [Hmany.out]; have := HN.out; congr 1; split <;> split <;> omega, by rw [Hatt.out]; have := HN.out; congr 1; split <;> split <;> omega, Hbi2.out, Hki2.out, Hri2.out⟩
                case measure => simp [intOf]; omega
            · obtain rfl : i = sn := by omega
              rw [if_pos hrm] at Hmany Hatt
              have e1 := Hmany.out
              have e2 := Hatt.out
              subst e1 e2
              have HFI := Lib.hid (find_any (.slice sx i sc) ⟨l3, lg3, nx3⟩ key wr Hri.out (valid_fits Hv3.out))
              rw [findI_eq Hv3.out HFA.out] at HFI
              unfold stV at HFI
              try simp only at HFI
              go_wp2_with fail
              refine HFI.out.mono ?_
              rintro e w12 ⟨rfl, hb12⟩
              have Hki2 := Lib.hid (Hki.out.below hb12)
              have Hri2 := Lib.hid (Hri.out.below hb12)
              have Hbi2 := Lib.hid (Hbi.out.trans (hb12.mono Hbi.out.size))
              clear a0 a1 a2 hb12
              go_wp2_with fail
              go_roundw
              case rel => exact ⟨k + 1, _, ⟨l3, lg3, nx3⟩, by go_num, by have := Hlt.out; omega, Hv3.out, Hbi2.out, Hki2.out, Hri2.out⟩
              case measure => simp [intOf]; omega
    · obtain rfl : k = n := by omega
      go_wp2_with fail
      refine (lives_any wr).mono ?_
      rintro e w1 ⟨rfl, hb⟩
      go_wp2_with fail
      go_ret
      exact ⟨rfl, Hbe.out.trans (hb.mono Hbe.out.size)⟩
end Go.Proofs.Ytenbgfejonokdaa

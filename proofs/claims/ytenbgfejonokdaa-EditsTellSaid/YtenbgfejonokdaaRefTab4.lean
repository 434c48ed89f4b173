/- An edit of a tablet, by the document, walked: two tablets made one. -/
import Derived.Test.YtenbgfejonokdaaRefTab3
namespace Go.Proofs.Ytenbgfejonokdaa
set_option linter.unusedSimpArgs false
set_option linter.unusedVariables false
set_option maxRecDepth 100000
open Go.RowKit
attribute [local go_sem ↓] Go.wp_at_zero Go.wp_at_succ

theorem doesR_merge {s : Ed.St} {e : Ed.Edit} {i : Nat} (hk : e.kind = 4) (ha : e.at_ = i) (hi : i < s.l.length) :
    (∀ h2 : i + 1 < s.l.length, Ed.doesR s e = some ⟨(setTabs s.l i (Ed.union s.l[i].tabs s.l[i + 1].tabs)).take (i + 1) ++ (setTabs s.l i (Ed.union s.l[i].tabs s.l[i + 1].tabs)).drop (i + 2), s.log, s.next⟩) ∧ (¬ i + 1 < s.l.length → Ed.doesR s e = none) := by
  have : e.at_.toNat = i := by omega
  unfold Ed.doesR Ed.doesP
  rw [if_neg (by omega), if_neg (by omega), dif_pos ⟨by omega, by omega⟩, if_neg (by omega), if_neg (by omega), if_neg (by omega), if_pos hk]
  simp only [this]
  refine ⟨fun h2 => ?_, fun h2 => by rw [dif_neg h2]⟩
  rw [dif_pos h2, setTabs_eq hi]
  congr 2
  rw [List.take_set, List.drop_set_of_lt (by omega), List.take_succ_eq_append_getElem hi]
  rw [List.set_append_right _ _ (by simp; omega)]
  simp [List.length_take, Nat.min_eq_left (Nat.le_of_lt hi)]
theorem union_succ (a b : List Int) (k : Nat) (hk : k < b.length) : Ed.union a (b.take (k + 1)) = Ed.put (Ed.union a (b.take k)) b[k] := by
  unfold Ed.union
  rw [List.take_succ_eq_append_getElem hk, List.foldl_append]
  rfl
/-- The rows behind a change of tablet i's. -/
theorem RPre.each2 {w wC w' : World} {B sb tb cap : Nat} {raw : List (ByteArray × Value)} {s : Ed.St} {tv0 : Value} {e : Ed.Edit} {fv : Value} {i : Nat} (h : RPre w B sb tb cap raw s tv0 e fv i) {S : Nat → Prop} (x : Chg S w wC)
    (hir : i < raw.length) (hS : ∀ g, S g → g = tb) {u : Value} {U : List Int} {Bu : Nat} (hu : OwnI wC Bu u U) (hub : ∀ g, u.ownBlock = some g → g ≠ sb ∧ B ≤ g)
    (y : Below wC.heap.size wC w') (v : Value) (hv : ∀ g, v.ownBlock = some g → wC.heap.size ≤ g) :
    ∀ (j : Nat) (hj : j < (raw.set i (raw[i].1, u)).length) (hj' : j < (setTabs s.l i U).length), (raw.set i (raw[i].1, u))[j].1 = (setTabs s.l i U)[j].frm ∧ RdN w' (fun g => (g = sb ∨ g < B) ∨ v.ownBlock = some g) (raw.set i (raw[i].1, u))[j].2 (setTabs s.l i U)[j].tabs ∧ CapOk (raw.set i (raw[i].1, u))[j].2 := by
  intro j hj hj'
  simp only [setTabs_eq h.il] at hj' ⊢
  rw [List.length_set] at hj hj'
  by_cases e : i = j
  · subst e
    rw [List.getElem_set_self, List.getElem_set_self]
    refine ⟨(h.own.each i hir hj').1, (hu.kept y).rdn fun g hg e => ?_, hu.cap⟩
    rcases e with (rfl | e) | e
    · exact (hub _ hg).1 rfl
    · have := (hub _ hg).2; omega
    · have := hv g e
      have := ((World.ownsRow.lt hu) g hg).2
      omega
  · rw [List.getElem_set_ne e, List.getElem_set_ne e]
    obtain ⟨h1, h2, h3⟩ := h.own.each j hj hj'
    have h4 := h2.chg x fun g hg e2 => h3 (by rw [hg, hS g e2])
    refine ⟨h1, (h4.kept y).rdn fun g hg e => ?_, h2.cap⟩
    rcases e with (rfl | e) | e
    · exact h.far j hj hg
    · have := ((World.ownsRow.lt h4) g hg).1; omega
    · have := hv g e
      have := ((World.ownsRow.lt h4) g hg).2
      omega
set_option maxHeartbeats 8000000 in
theorem tablet_merge {w : World} {B sb tb cap : Nat} {raw : List (ByteArray × Value)} {s : Ed.St} {tv0 : Value} {e : Ed.Edit} {fv : Value} {i : Nat} (h : RPre w B sb tb cap raw s tv0 e fv i) (hk : e.kind = 4) :
    Calls Try.prog 99 #[.pointer (some ⟨sb, 0, none⟩), stV tv0 s.log s.next, edV e fv] w (RTPost w B sb (Ed.doesR s e)) := by
  have hval := h.valid
  have HH := Lib.hid h
  obtain ⟨w1, hw1⟩ : ∃ w1, w1 = (w.alloc (.cells #[tv0, .int .i64 s.log, .int .i64 s.next] 67 (0, 0))).alloc (.cells #[.int .i64 e.kind, .int .i64 e.at_, .int .i64 e.file, fv, .string e.key] 74 (0, 0)) := ⟨_, rfl⟩
  obtain ⟨k1, k2, kb⟩ := two_allocs w _ _ _ _ w1 hw1
  have hp := h.below kb
  have hlt := h.lt
  obtain ⟨x0, c0, htv0, hel0⟩ := h.rd
  obtain ⟨b0, o0, ov, rfl, hb0, _, d0, d1, hov, hovc⟩ := hel0 i h.il
  obtain ⟨ot, hot⟩ : ∃ ot, ∀ h2 : i < s.l.length, s.l[i].tabs = ot := ⟨(s.l[i]'h.il).tabs, fun _ => rfl⟩
  rw [hot] at hov
  have HOT := Lib.hid hot
  have HTL := Lib.hid (show ot.length ≤ 128 by rw [← hot h.il]; exact (h.valid.each i h.il).2.2.2)
  have hat := h.at_
  have hil := h.il
  have hfew := h.valid.few
  have hcapl := h.capl
  have hcapm := h.capm
  obtain ⟨R, hR⟩ : ∃ R, R = Ed.doesR s e := ⟨_, rfl⟩
  rw [← hR]
  have HR := Lib.hid hR
  obtain ⟨l, log, next⟩ := s
  obtain ⟨kind, at_, file, files, key⟩ := e
  simp only at hw1 k1 k2 hat hil hfew hk d1 hov htv0 hcapl HR hR
  subst hat hk
  obtain ⟨n, hn⟩ : ∃ n, n = l.length := ⟨_, rfl⟩
  rw [← hn] at hil htv0 hcapl hfew
  subst htv0
  have HN := Lib.hid hn

  have e5 := (kb.cell (p := ⟨b0, o0 + i * 2 + 1, none⟩) (Nat.lt_of_lt_of_le hb0 hlt.1)).trans d1
  have HOV := Lib.hid ((RdIB.rd hov).below kb)
  have HOC := Lib.hid hovc
  have HOVB := Lib.hid (RdIB.below hov kb)
  obtain ⟨ox, on, oc, hovv, _⟩ := hovc
  subst hovv
  obtain ⟨a0, a1, a2, _⟩ := blk3 k1
  obtain ⟨e0, e1, e2, e3, e4⟩ := blk5 k2
  obtain ⟨s0, s1, s2, sf0, sf1, sf2⟩ := blk3 hp.blk
  simp only at s0 s1 s2
  rw [← hn] at s0
  have HW := Lib.hid hw1
  have HP := Lib.hid hp
  have HB := Lib.hid kb
  have HK1 := Lib.hid k1
  have HK2 := Lib.hid k2
  have HLT := Lib.hid hlt
  obtain ⟨fx, fc, rfl, _⟩ := h.files.rd.form
  obtain ⟨p, hpp⟩ : ∃ p, p = w.heap.size := ⟨_, rfl⟩
  have HPP := Lib.hid hpp
  have hi0 : (0 : Int) ≤ i := by omega
  have hi1 : (i : Int) < n := by omega
  rw [hw1] at a0 a1 a2 e0 e1 e2 e3 e4 e5 s0 s1 s2 sf0 sf1 sf2
  unfold stV edV
  try dsimp only
  clear h hp hlt hel0 hb0 hot d0 d1 hov hR hn kb k1 k2 hw1 hpp
  go_enter Try.func99, Try.ntmps99
  have HDM := Lib.hid (doesR_merge (s := ⟨l, log, next⟩) (e := ⟨4, i, file, files, key⟩) (i := i) rfl rfl (by show i < l.length; rw [← HN.out]; exact hil))
  simp only [HOT.out] at HDM
  have hw2 : IntKind.i64.wrap ((i : Int) + 1) = (i : Int) + 1 := by rw [IntKind.wrap_i64]; omega
  have htn : ((i : Int) + 1).toNat = i + 1 := by omega
  have hbd1 : (0 : Int) ≤ (i : Int) + 1 := by omega
  by_cases hi2 : i + 1 < n
  case neg =>
    have HD := Lib.hid (show R = none from HR.out.trans (HDM.out.2 (by show ¬ i + 1 < l.length; rw [← HN.out]; exact hi2)))
    have hii : (n : Int) ≤ (i : Int) + 1 := by omega
    clear HR HDM
    go_wp2_with fail
    rw [← HW.out]
    go_ret
    refine ⟨HB.out.mono HLT.out.1, ?_⟩
    rw [HD.out]
    exact rfl
  case pos =>
    have hii : ¬ (n : Int) ≤ (i : Int) + 1 := by omega
    have hi2l : i + 1 < l.length := by rw [← HN.out]; exact hi2
    have HD := Lib.hid (HR.out.trans (HDM.out.1 hi2l))
    have htl2 : l[i + 1].tabs.length ≤ 128 := (hval.each (i + 1) hi2l).2.2.2
    obtain ⟨t2, ht2⟩ : ∃ t2, t2 = l[i + 1].tabs := ⟨_, rfl⟩
    rw [← ht2] at HD htl2
    obtain ⟨xx, cc, exx, helx⟩ := HP.out.rd
    obtain ⟨b2, o2, qv, hxx, hb2B, hb2, q0, q1, hqv, hqc⟩ := helx (i + 1) hi2l
    injection exx with ex1 ex2 ex3
    rw [← ex1] at hxx
    clear ex1 ex2 ex3
    injection hxx with hxx
    injection hxx with hx1 hx2
    subst hx1 hx2
    simp only at hqv q1
    rw [← ht2] at hqv
    have HQV := Lib.hid (RdIB.rd hqv)
    obtain ⟨qx, qc, hqf, _⟩ := (RdIB.rd hqv).form
    obtain ⟨qn, hqn⟩ : ∃ qn, qn = t2.length := ⟨_, rfl⟩
    rw [← hqn] at hqf htl2
    subst hqf
    have HQN := Lib.hid hqn
    have Q1 := Lib.hid q1
    have HQB := Lib.hid hb2
    clear HR HDM q0 hqv hqc helx hqn ht2 hb2B hb2
    rw [HW.out] at q1
    go_wp2_with fail
    rw [← HW.out]
    clear s0 s1 s2 sf0 sf1 sf2 a0 a1 a2 e0 e1 e2 e3 e4 e5 q1
    go_loopw [10, 11] (fun v10 v11 wr => ∃ (k : Nat), v11 = .int .i64 k ∧ k ≤ qn ∧ RdI wr v10 (Ed.union ot (t2.take k)) ∧ CapOk v10 ∧ Below w1.heap.size w1 wr) (fun _ v11 _ => qn - (intOf v11).toNat)
    case atStart => exact ⟨0, rfl, Nat.zero_le _, HOV.out, HOC.out, Below.refl _ _⟩
    case round =>
      obtain ⟨k, rfl, hk, hrd, hcp, hbe⟩ := hrel
      have HRr := Lib.hid hrd
      have HCp := Lib.hid hcp
      have HBe := Lib.hid hbe
      have HPr := Lib.hid (HP.out.below hbe)
      have hzr := hbe.size
      obtain ⟨a0, a1, a2, _⟩ := blk3 (HK1.out.below hbe)
      obtain ⟨_, e1, e2, e3, e4⟩ := blk5 (HK2.out.below hbe)
      have q1 := (hbe.cell (p := ⟨b0, _, none⟩) HQB.out).trans Q1.out
      have HQr := Lib.hid (HQV.out.below hbe)
      obtain ⟨vx, vn, vc, hvv, _⟩ := hcp
      subst hvv
      clear hrd hbe
      by_cases hlt : k < qn
      · have hkl : k < t2.length := by rw [← HQN.out]; exact hlt
        obtain ⟨yy, yc, ey, hel2⟩ := HQr.out.form
        obtain ⟨rb, roff, hyy, _, f0⟩ := hel2 k hkl
        injection ey with ey1 ey2 ey3
        rw [← ey1] at hyy
        subst hyy ey3
        obtain ⟨f, hff⟩ : ∃ f, f = t2[k] := ⟨_, rfl⟩
        rw [← hff] at f0
        have Hn := Lib.hid hff
        have hul := Ed.union_len (t2.take k) ot
        rw [List.length_take] at hul
        have HPUT := Lib.hid (refPut_any (.slice vx vn vc) (Ed.union ot (t2.take k)) f wr HRr.out HCp.out (by have := HTL.out; omega))
        clear hff hel2 ey1 hul
        go_wp2_with fail
        refine HPUT.out.mono ?_
        rintro e w2 ⟨v', rfl, hr2, hc2, hb2⟩
        have HR2 := Lib.hid hr2
        have HC2 := Lib.hid hc2
        have HB2 := Lib.hid (HBe.out.trans (hb2.mono HBe.out.size))
        clear hr2 hc2 hb2 a0 a1 a2 e1 e2 e3 e4 q1 f0
        go_wp2_with fail
        go_roundw
        case rel => exact ⟨k + 1, by go_num, by omega, by rw [union_succ _ _ _ hkl, ← Hn.out]; exact HR2.out, HC2.out, HB2.out⟩
        case measure => simp [intOf]; omega
      · obtain rfl : k = qn := by omega
        have HU := Lib.hid (show RdI wr (.slice vx vn vc) (Ed.union ot t2) by have := HRr.out; rw [HQN.out, List.take_length] at this; exact this)
        have hul := Ed.union_len t2 ot
        rw [← HQN.out] at hul
        obtain ⟨U, hU⟩ : ∃ U, U = Ed.union ot t2 := ⟨_, rfl⟩
        rw [← hU] at HU HD hul
        have hull : U.length ≤ 256 := by have := HTL.out; omega
        have hlr : raw.length = l.length := HP.out.own.len
        have hln : l.length = n := HN.out.symm
        have hir : i < raw.length := by omega
        obtain ⟨s0, s1, s2, sf0, sf1, sf2⟩ := blk3 HPr.out.blk
        simp only at s0 s1 s2
        rw [hln] at s0
        have hl1 := HLT.out
        have hzw := HB.out.size
        obtain ⟨yq, yqc, eyq, _⟩ := HQr.out.form
        clear HRr hU hul eyq
        go_wp2_with fail
        refine wp_region_two (T := fun W => T8 w.heap.size i file (.slice fx files.length fc) key W ∧ W.cell? ⟨sb, 0, none⟩ = some (.slice (some ⟨tb, 0, none⟩) n cap)) (S := fun _ => True) (n := 10) (by kernel_rfl) ?_
        obtain ⟨x0, hx0⟩ : ∃ x0, x0 = wr.drew := ⟨_, rfl⟩
        rw [← hx0]
        have hb0 : Below wr.heap.size wr x0 := by rw [hx0]; exact (Below.refl _ _).drew
        have hlp : w.heap.size + 1 < wr.heap.size := by have := HK2.out.lt; omega
        have hls := HPr.out.lt.2.1
        have hT : T8 w.heap.size i file (.slice fx files.length fc) key x0 ∧ x0.cell? ⟨sb, 0, none⟩ = some (.slice (some ⟨tb, 0, none⟩) n cap) := ⟨T8.below ⟨e1, e2, e3, e4⟩ hb0 hlp, (hb0.cell (p := ⟨sb, 0, none⟩) hls).trans s0⟩
        have hS : True := trivial
        have HB0 := Lib.hid (HBe.out.trans (hb0.mono HBe.out.size))
        have HU0 := Lib.hid (HU.out.below hb0)
        have hz0 := hb0.size
        clear s0 s1 s2 sf0 sf1 sf2 a0 a1 a2 e1 e2 e3 e4 hx0 hb0 q1
        refine two_takeT 0 (some 175) (v := ?_) rfl rfl (by kernel_rfl) (by kernel_rfl) (by kernel_rfl) (by decide) (fun _ _ _ h => h) (Or.inl ⟨by rfl, ?hy0⟩) hT hS ?_
        case hy0 => (intro w' hT'; (try unfold T8 at hT'); go_simp; (try with_reducible rfl))
        try simp only [Act.put, List.setIfInBounds_toArray, List.set_cons_zero, List.set_cons_succ]
        refine two_takeT 1 (some 176) (v := ?_) rfl rfl (by kernel_rfl) (by kernel_rfl) (by kernel_rfl) (by decide) (fun _ _ _ h => h) (Or.inl ⟨by rfl, ?hy1⟩) hT hS ?_
        case hy1 => (intro w' hT'; (try unfold T8 at hT'); go_simp; (try with_reducible rfl))
        try simp only [Act.put, List.setIfInBounds_toArray, List.set_cons_zero, List.set_cons_succ]
        refine two_takeT 2 (some 177) (v := ?_) rfl rfl (by kernel_rfl) (by kernel_rfl) (by kernel_rfl) (by decide) (fun _ _ _ h => h) (Or.inl ⟨by rfl, ?hy2⟩) hT hS ?_
        case hy2 => (intro w' hT'; (try unfold T8 at hT'); go_simp; (try with_reducible rfl))
        try simp only [Act.put, List.setIfInBounds_toArray, List.set_cons_zero, List.set_cons_succ]
        refine two_takeT 3 (some 178) (v := ?_) rfl rfl (by kernel_rfl) (by kernel_rfl) (by kernel_rfl) (by decide) (fun _ _ _ h => h) (Or.inl ⟨by rfl, ?hy3⟩) hT hS ?_
        case hy3 => (intro w' hT'; (try unfold T8 at hT'); go_simp; (try with_reducible rfl))
        try simp only [Act.put, List.setIfInBounds_toArray, List.set_cons_zero, List.set_cons_succ]
        refine two_takeT 4 (some 179) (v := ?_) rfl rfl (by kernel_rfl) (by kernel_rfl) (by kernel_rfl) (by decide) (fun _ _ _ h => h) (Or.inl ⟨by rfl, ?hy4⟩) hT hS ?_
        case hy4 => (intro w' hT'; (try unfold T8 at hT'); go_simp; (try with_reducible rfl))
        try simp only [Act.put, List.setIfInBounds_toArray, List.set_cons_zero, List.set_cons_succ]
        refine two_takeT 5 (some 180) (v := ?_) rfl rfl (by kernel_rfl) (by kernel_rfl) (by kernel_rfl) (by decide) (fun _ _ _ h => h) (Or.inl ⟨by rfl, ?hy5⟩) hT hS ?_
        case hy5 => (intro w' hT'; (try unfold T8 at hT'); go_simp; (try with_reducible rfl))
        try simp only [Act.put, List.setIfInBounds_toArray, List.set_cons_zero, List.set_cons_succ]
        refine two_takeT 6 (some 181) (v := ?_) rfl rfl (by kernel_rfl) (by kernel_rfl) (by kernel_rfl) (by decide) (fun _ _ _ h => h) (Or.inl ⟨by rfl, ?hy6⟩) hT hS ?_
        case hy6 => (intro w' hT'; (try unfold T8 at hT'); go_simp; (try with_reducible rfl))
        try simp only [Act.put, List.setIfInBounds_toArray, List.set_cons_zero, List.set_cons_succ]
        refine two_one 7 rfl (by kernel_rfl) ?_
        intro K hK
        refine step_append_ints rfl (.const (.slice none 0 0)) (.tmp 181) (by rfl) x0.heap.size (.slice none 0 0) [] (by rfl) (OwnI.nil _ _) (.slice vx vn vc) U (by rfl) HU0.out (by simp; omega) (Nat.le_refl _) ?_
        intro u2 x2 ho2 hg2 _
        rw [List.nil_append] at ho2
        have hb2 : Below x0.heap.size x0 x2 := (Below.refl _ _).grown hg2 (Nat.le_refl _) (fun g hg => by cases hg)
        obtain ⟨ux, uc, hu2, _⟩ := ho2.rd.form
        obtain ⟨un, hun⟩ : ∃ un, un = U.length := ⟨_, rfl⟩
        rw [← hun] at hu2
        subst hu2
        have hT1 : T8 w.heap.size i file (.slice fx files.length fc) key x2 ∧ x2.cell? ⟨sb, 0, none⟩ = some (.slice (some ⟨tb, 0, none⟩) n cap) := ⟨hT.1.below hb2 (by omega), (hb2.cell (p := ⟨sb, 0, none⟩) (by show sb < _; omega)).trans hT.2⟩
        refine hK.out _ _ hT1 (fun _ _ => hS) ?_
        have HB2 := Lib.hid (HB0.out.trans (hb2.mono HB0.out.size))
        have HO2 := Lib.hid ho2
        have HP2 := Lib.hid (HP.out.below HB2.out)
        have hz2 := hb2.size
        clear hK K hT ho2 hg2 hun hb2
        have hT := hT1
        clear hT1
        try simp only [Act.put, List.setIfInBounds_toArray, List.set_cons_zero, List.set_cons_succ]
        refine two_takeT 8 (some 183) (v := ?_) rfl rfl (by kernel_rfl) (by kernel_rfl) (by kernel_rfl) (by decide) (fun _ _ _ h => h) (Or.inl ⟨by rfl, ?hy8⟩) hT hS ?_
        case hy8 => (intro w' hT'; (try unfold T8 at hT'); go_simp; (try with_reducible rfl))
        try simp only [Act.put, List.setIfInBounds_toArray, List.set_cons_zero, List.set_cons_succ]
        refine two_takeT 9 (some 184) (v := ?_) rfl rfl (by kernel_rfl) (by kernel_rfl) (by kernel_rfl) (by decide) (fun _ _ _ h => h) (Or.inl ⟨by rfl, ?hy9⟩) hT hS ?_
        case hy9 => (intro w' hT'; (try unfold T8 at hT'); go_simp; (try with_reducible rfl))
        try simp only [Act.put, List.setIfInBounds_toArray, List.set_cons_zero, List.set_cons_succ]
        have c3 := HP2.out.own.row.cell (i * 2 + 1) (by rw [cellsT_length]; omega)
        have f3 := HP2.out.own.row.free (i * 2 + 1) (by rw [cellsT_length]; omega)
        generalize (cellsT raw)[i * 2 + 1]'(by rw [cellsT_length]; omega) = old at c3
        refine two_one 10 rfl (by kernel_rfl) ?_
        intro K hK
        go_simp
        obtain ⟨x3, hx3⟩ : ∃ x3, x3 = x2.setCell ⟨tb, i * 2 + 1, none⟩ (.slice ux un uc) := ⟨_, rfl⟩
        rw [← hx3]
        have HR3 := Lib.hid (show RowAt x3 tb (cellsT (raw.set i (raw[i].1, .slice ux un uc))) from by
          rw [hx3, ← cellsT_set1 raw i hir]
          exact HP2.out.own.row.set (i * 2 + 1) (by rw [cellsT_length]; omega) _)
        have hC3 : Chg (fun g => g = tb) x2 x3 := by rw [hx3]; exact Chg.setCell (S := fun g => g = tb) (Chg.refl _ _) (fun _ => rfl) _
        have hne : ¬ sb = tb := hl1.2.2.2.2.2
        have HB3 := Lib.hid (HP2.out.blk.chg hC3 hne)
        have hT1 : T8 w.heap.size i file (.slice fx files.length fc) key x3 ∧ x3.cell? ⟨sb, 0, none⟩ = some (.slice (some ⟨tb, 0, none⟩) n cap) := ⟨hT.1.chg hC3 (by omega) (by omega), (hC3.cell (p := ⟨sb, 0, none⟩) (by show sb < _; omega) hne).trans hT.2⟩
        refine hK.out _ _ hT1 (fun _ e => absurd rfl e) ?_
        refine two_done (by kernel_rfl) ?_ _
        have HCA := Lib.hid (show Chg (fun g => g = tb) w1 x3 from (Chg.of_below HB2.out).trans hC3)
        have HVO := Lib.hid (show OwnI x3 x0.heap.size (.slice ux un uc) U from HO2.out.chg hC3 fun g hg e => by have := ((World.ownsRow.lt HO2.out) g hg).1; omega)
        have HBF := Lib.hid (show Below B w x3 from (HB.out.mono HLT.out.1).trans (HCA.out.below (by have := HLT.out.1; have := HB.out.size; omega) (fun g hg e => by omega)))
        have hz3 := hC3.size
        have s0 := hT1.2
        obtain ⟨e1, e2, e3, e4⟩ := hT1.1
        clear hK K hT hS hT1 hx3 hC3 c3 f3
        go_wp2_with fail
        refine wp_region_two (T := fun W => T8 w.heap.size i file (.slice fx files.length fc) key W) (S := fun W => W.cell? ⟨sb, 0, none⟩ = some (.slice (some ⟨tb, 0, none⟩) n cap)) (n := 21) (by kernel_rfl) ?_
        obtain ⟨x4, hx4⟩ : ∃ x4, x4 = x3.drew := ⟨_, rfl⟩
        rw [← hx4]
        have hb4 : Below x3.heap.size x3 x4 := by rw [hx4]; exact (Below.refl _ _).drew
        have hT : T8 w.heap.size i file (.slice fx files.length fc) key x4 := T8.below ⟨e1, e2, e3, e4⟩ hb4 (by omega)
        have hS : x4.cell? ⟨sb, 0, none⟩ = some (.slice (some ⟨tb, 0, none⟩) n cap) := (hb4.cell (p := ⟨sb, 0, none⟩) (by show sb < _; omega)).trans s0
        have HB4 := Lib.hid hb4
        have hz4 := hb4.size
        clear s0 e1 e2 e3 e4 hx4 hb4
        have hw3 : IntKind.i64.wrap ((i : Int) + 2) = (i : Int) + 2 := by rw [IntKind.wrap_i64]; omega
        have htn2 : ((i : Int) + 2).toNat = i + 2 := by omega
        have hbd2 : (0 : Int) ≤ (i : Int) + 2 := by omega
        have hbd3 : (i : Int) + 2 ≤ (n : Int) := by omega
        have hbd4 : (i : Int) + 1 ≤ (cap : Int) := by omega
        have hbd5 : (n : Int) ≤ (cap : Int) := by omega
        have hlen' : (setTabs l i U).length = n := by rw [setTabs_eq (by omega), List.length_set, hln]
        have hrlen : (raw.set i (raw[i].1, Value.slice ux un uc)).length = (setTabs l i U).length := by rw [hlen', List.length_set]; omega
        have HUB := Lib.hid (show ∀ g, (Value.slice ux un uc).ownBlock = some g → g ≠ sb ∧ B ≤ g from fun g hg => by have := ((World.ownsRow.lt HVO.out) g hg).1; omega)
        have HEA0 := Lib.hid (show ∀ (RW : List (ByteArray × Value)) (L : List Ed.Tab), RW = raw.set i (raw[i].1, Value.slice ux un uc) → L = setTabs l i U → ∀ (W : World) (hW : Below x3.heap.size x3 W) (v : Value) (hv : ∀ g, v.ownBlock = some g → x3.heap.size ≤ g),
            ∀ (j : Nat) (hj : j < RW.length) (hj' : j < L.length), RW[j].1 = L[j].frm ∧ RdN W (fun g => (g = sb ∨ g < B) ∨ v.ownBlock = some g) RW[j].2 L[j].tabs ∧ CapOk RW[j].2 from by
          rintro RW L rfl rfl W hW v hv
          exact HP.out.each2 HCA.out hir (fun g h => h) HVO.out HUB.out hW v hv)
        obtain ⟨L, hL⟩ : ∃ L, L = setTabs l i U := ⟨_, rfl⟩
        obtain ⟨RW, hRW⟩ : ∃ RW, RW = raw.set i (raw[i].1, Value.slice ux un uc) := ⟨_, rfl⟩
        have HEA := Lib.hid (HEA0.out RW L hRW hL)
        rw [← hL] at hlen' hrlen
        rw [← hRW] at hrlen
        have HD2 := Lib.hid (show R = some ⟨L.take (i + 1) ++ L.drop (i + 2), log, next⟩ by rw [hL]; exact HD.out)
        have HR4 := Lib.hid (show RowAt x3 tb (cellsT RW) by rw [hRW]; exact HR3.out)
        clear hL hRW HEA0 HD HR3
        by_cases hci : cap = i + 2
        · have hni : n = i + 2 := by omega
          subst hci
          subst hni
          refine two_takeT 0 (some 185) (v := ?_) rfl rfl (by kernel_rfl) (by kernel_rfl) (by kernel_rfl) (by decide) (fun _ _ _ h => h) (Or.inl ⟨by rfl, ?hy0⟩) hT hS ?_
          case hy0 => (intro w' hT'; (try unfold T8 at hT'); go_simp; (try with_reducible rfl))
          try simp only [Act.put, List.setIfInBounds_toArray, List.set_cons_zero, List.set_cons_succ]
          refine two_takeT 1 (some 186) (v := ?_) rfl rfl (by kernel_rfl) (by kernel_rfl) (by kernel_rfl) (by decide) (fun _ _ _ h => h) (Or.inl ⟨by rfl, ?hy1⟩) hT hS ?_
          case hy1 => (intro w' hT'; (try unfold T8 at hT'); go_simp; (try with_reducible rfl))
          try simp only [Act.put, List.setIfInBounds_toArray, List.set_cons_zero, List.set_cons_succ]
          refine two_takeT 2 (some 187) (v := ?_) rfl rfl (by kernel_rfl) (by kernel_rfl) (by kernel_rfl) (by decide) (fun _ _ _ h => h) (Or.inl ⟨by rfl, ?hy2⟩) hT hS ?_
          case hy2 => (intro w' hT'; (try unfold T8 at hT'); go_simp; (try with_reducible rfl))
          try simp only [Act.put, List.setIfInBounds_toArray, List.set_cons_zero, List.set_cons_succ]
          refine two_takeT 3 (some 188) (v := ?_) rfl rfl (by kernel_rfl) (by kernel_rfl) (by kernel_rfl) (by decide) (fun _ _ _ h => h) (Or.inl ⟨by rfl, ?hy3⟩) hT hS ?_
          case hy3 => (intro w' hT'; (try unfold T8 at hT'); go_simp; (try with_reducible rfl))
          try simp only [Act.put, List.setIfInBounds_toArray, List.set_cons_zero, List.set_cons_succ]
          refine two_take 4 (some 189) (v := ?_) rfl rfl (by kernel_rfl) (by kernel_rfl) (by kernel_rfl) (by kernel_rfl) (by decide) (by kernel_rfl) (fun _ _ _ h => h) (Or.inl ⟨by rfl, ?hy4⟩) hT hS ?_
          case hy4 => (intro w' hS'; (try unfold S8 at hS'); (try unfold T8 at hS'); go_simp; (try with_reducible rfl))
          try simp only [Act.put, List.setIfInBounds_toArray, List.set_cons_zero, List.set_cons_succ]
          refine two_takeT 5 (some 190) (v := ?_) rfl rfl (by kernel_rfl) (by kernel_rfl) (by kernel_rfl) (by decide) (fun _ _ _ h => h) (Or.inl ⟨by rfl, ?hy5⟩) hT hS ?_
          case hy5 => (intro w' hT'; (try unfold T8 at hT'); go_simp; (try with_reducible rfl))
          try simp only [Act.put, List.setIfInBounds_toArray, List.set_cons_zero, List.set_cons_succ]
          refine two_takeT 6 (some 191) (v := ?_) rfl rfl (by kernel_rfl) (by kernel_rfl) (by kernel_rfl) (by decide) (fun _ _ _ h => h) (Or.inl ⟨by rfl, ?hy6⟩) hT hS ?_
          case hy6 => (intro w' hT'; (try unfold T8 at hT'); go_simp; (try with_reducible rfl))
          try simp only [Act.put, List.setIfInBounds_toArray, List.set_cons_zero, List.set_cons_succ]
          refine two_takeT 7 (some 192) (v := ?_) rfl rfl (by kernel_rfl) (by kernel_rfl) (by kernel_rfl) (by decide) (fun _ _ _ h => h) (Or.inl ⟨by rfl, ?hy7⟩) hT hS ?_
          case hy7 => (intro w' hT'; (try unfold T8 at hT'); go_simp; (try with_reducible rfl))
          try simp only [Act.put, List.setIfInBounds_toArray, List.set_cons_zero, List.set_cons_succ]
          refine two_takeT 8 (some 193) (v := ?_) rfl rfl (by kernel_rfl) (by kernel_rfl) (by kernel_rfl) (by decide) (fun _ _ _ h => h) (Or.inl ⟨by rfl, ?hy8⟩) hT hS ?_
          case hy8 => (intro w' hT'; (try unfold T8 at hT'); go_simp; (try with_reducible rfl))
          try simp only [Act.put, List.setIfInBounds_toArray, List.set_cons_zero, List.set_cons_succ]
          refine two_takeT 10 (some 195) (v := ?_) rfl rfl (by kernel_rfl) (by kernel_rfl) (by kernel_rfl) (by decide) (fun _ _ _ h => h) (Or.inl ⟨by rfl, ?hy10⟩) hT hS ?_
          case hy10 => (intro w' hT'; (try unfold T8 at hT'); go_simp; (try with_reducible rfl))
          try simp only [Act.put, List.setIfInBounds_toArray, List.set_cons_zero, List.set_cons_succ]
          refine two_takeT 11 (some 196) (v := ?_) rfl rfl (by kernel_rfl) (by kernel_rfl) (by kernel_rfl) (by decide) (fun _ _ _ h => h) (Or.inl ⟨by rfl, ?hy11⟩) hT hS ?_
          case hy11 => (intro w' hT'; (try unfold T8 at hT'); go_simp; (try with_reducible rfl))
          try simp only [Act.put, List.setIfInBounds_toArray, List.set_cons_zero, List.set_cons_succ]
          refine two_takeT 12 (some 197) (v := ?_) rfl rfl (by kernel_rfl) (by kernel_rfl) (by kernel_rfl) (by decide) (fun _ _ _ h => h) (Or.inl ⟨by rfl, ?hy12⟩) hT hS ?_
          case hy12 => (intro w' hT'; (try unfold T8 at hT'); go_simp; (try with_reducible rfl))
          try simp only [Act.put, List.setIfInBounds_toArray, List.set_cons_zero, List.set_cons_succ]
          refine two_take 13 (some 198) (v := ?_) rfl rfl (by kernel_rfl) (by kernel_rfl) (by kernel_rfl) (by kernel_rfl) (by decide) (by kernel_rfl) (fun _ _ _ h => h) (Or.inl ⟨by rfl, ?hy13⟩) hT hS ?_
          case hy13 => (intro w' hS'; (try unfold S8 at hS'); (try unfold T8 at hS'); go_simp; (try with_reducible rfl))
          try simp only [Act.put, List.setIfInBounds_toArray, List.set_cons_zero, List.set_cons_succ]
          refine two_takeT 14 (some 199) (v := ?_) rfl rfl (by kernel_rfl) (by kernel_rfl) (by kernel_rfl) (by decide) (fun _ _ _ h => h) (Or.inl ⟨by rfl, ?hy14⟩) hT hS ?_
          case hy14 => (intro w' hT'; (try unfold T8 at hT'); go_simp; (try with_reducible rfl))
          try simp only [Act.put, List.setIfInBounds_toArray, List.set_cons_zero, List.set_cons_succ]
          refine two_takeT 15 (some 200) (v := ?_) rfl rfl (by kernel_rfl) (by kernel_rfl) (by kernel_rfl) (by decide) (fun _ _ _ h => h) (Or.inl ⟨by rfl, ?hy15⟩) hT hS ?_
          case hy15 => (intro w' hT'; (try unfold T8 at hT'); go_simp; (try with_reducible rfl))
          try simp only [Act.put, List.setIfInBounds_toArray, List.set_cons_zero, List.set_cons_succ]
          refine two_takeT 16 (some 201) (v := ?_) rfl rfl (by kernel_rfl) (by kernel_rfl) (by kernel_rfl) (by decide) (fun _ _ _ h => h) (Or.inl ⟨by rfl, ?hy16⟩) hT hS ?_
          case hy16 => (intro w' hT'; (try unfold T8 at hT'); go_simp; (try with_reducible rfl))
          try simp only [Act.put, List.setIfInBounds_toArray, List.set_cons_zero, List.set_cons_succ]
          refine two_takeT 17 (some 202) (v := ?_) rfl rfl (by kernel_rfl) (by kernel_rfl) (by kernel_rfl) (by decide) (fun _ _ _ h => h) (Or.inl ⟨by rfl, ?hy17⟩) hT hS ?_
          case hy17 => (intro w' hT'; (try unfold T8 at hT'); go_simp; (try with_reducible rfl))
          try simp only [Act.put, List.setIfInBounds_toArray, List.set_cons_zero, List.set_cons_succ]
          refine two_one 9 rfl (by kernel_rfl) ?_
          intro K hK
          refine step_append_tn rfl (.const (.slice none 0 0)) (.tmp 193) (by rfl) (fun g => g = sb ∨ g < B) (.slice none 0 0) [] [] (by rfl) (OwnN.nil _ _) _ rfl (RW.take (i + 1)) (L.take (i + 1)) ?src
            (by simp only [List.length_nil, List.length_take]; omega) (fun g e => by have := HLT.out; have := HB.out.size; rcases e with rfl | e <;> omega) ?_
          case src => exact srcT_take (HR4.out.below HB4.out) hrlen (HEA.out x4 HB4.out _ (fun g hg => by cases hg)) (by show i + 1 ≤ L.length; omega)
          intro v5 x5 ho5 hg5 hv5
          rw [List.nil_append, List.nil_append] at ho5
          have hb5 : Below x4.heap.size x4 x5 := (Below.refl _ _).grown hg5 (Nat.le_refl _) (fun g hg => by cases hg)
          obtain ⟨y5, z5, hy5⟩ := ho5.form
          rw [show (L.take (i + 1)).length = i + 1 by rw [List.length_take]; omega] at hy5
          subst hy5
          have HV5 := Lib.hid (show ∀ g, (Value.slice y5 (i + 1) z5).ownBlock = some g → x3.heap.size ≤ g from fun g hg => by
            rcases hv5 with e | e
            · rw [e] at hg; cases hg
            · rw [hg] at e; injection e with e; omega)
          have hT1 : T8 w.heap.size i file (.slice fx files.length fc) key x5 := hT.below hb5 (by omega)
          have hS1 := (hb5.cell (p := ⟨sb, 0, none⟩) (by show sb < _; omega)).trans hS
          refine hK.out _ _ hT1 (fun _ _ => hS1) ?_
          have HO5 := Lib.hid ho5
          have HB5 := Lib.hid (HB4.out.trans (hb5.mono HB4.out.size))
          have hz5 := hb5.size
          clear hK K hT hS ho5 hg5 hv5 hb5
          have hT := hT1
          have hS := hS1
          clear hT1 hS1
          try simp only [Act.put, List.setIfInBounds_toArray, List.set_cons_zero, List.set_cons_succ]
          refine two_one 18 rfl (by kernel_rfl) ?_
          intro K hK
          refine step_append_tn rfl (.tmp 194) (.tmp 202) (by rfl) (fun g => g = sb ∨ g < B) (.slice y5 (i + 1) z5) (RW.take (i + 1)) (L.take (i + 1)) (by rfl) HO5.out _ rfl (RW.drop (i + 2)) (L.drop (i + 2)) ?src
            (by simp only [List.length_take, List.length_drop]; omega) (fun g e => by have := HLT.out; have := HB.out.size; rcases e with rfl | e <;> omega) ?_
          case src =>
            refine srcT_drop (HR4.out.below HB5.out) hrlen (HEA.out x5 HB5.out _ HV5.out) (by show i + 2 ≤ L.length; omega) ?_ ?_
            · show _ = L.length - _; omega
            · intro hlt
              first
                | rfl
                | exact absurd hlt (by show ¬ _ < L.length; omega)
          intro v6 x6 ho6 hg6 hv6
          have hC6 := chg_of_grown hg6
          have hnsb : ¬ ((Value.slice y5 (i + 1) z5).ownBlock = some sb) := fun e => by have := HV5.out sb e; omega
          have hnp : ¬ ((Value.slice y5 (i + 1) z5).ownBlock = some (w.heap.size + 1)) := fun e => by have := HV5.out _ e; omega
          obtain ⟨y6, z6, hy6⟩ := ho6.form
          obtain ⟨m6, hm6⟩ : ∃ m6, m6 = (L.take (i + 1) ++ L.drop (i + 2)).length := ⟨_, rfl⟩
          rw [← hm6] at hy6
          subst hy6
          have hT1 : T8 w.heap.size i file (.slice fx files.length fc) key x6 := hT.chg hC6 (by omega) hnp
          have hS1 := (hC6.cell (p := ⟨sb, 0, none⟩) (by show sb < _; omega) hnsb).trans hS
          refine hK.out _ _ hT1 (fun _ _ => hS1) ?_
          have HO6 := Lib.hid ho6
          have HB6 := Lib.hid (show Below x3.heap.size x3 x6 from HB5.out.grown hg6 (by omega) (fun k hk => HV5.out k hk))
          have hz6 := hC6.size
          clear hK K hT hS ho6 hg6 hv6 hC6 hm6
          have hT := hT1
          have hS := hS1
          clear hT1 hS1
          try simp only [Act.put, List.setIfInBounds_toArray, List.set_cons_zero, List.set_cons_succ]
          refine two_one 19 rfl (by kernel_rfl) ?_
          intro K hK
          go_simp
          refine hK.out _ _ hT (fun _ _ => hS) ?_
          clear hK K
          try simp only [Act.put, List.setIfInBounds_toArray, List.set_cons_zero, List.set_cons_succ]
          refine two_one 20 rfl (by kernel_rfl) ?_
          intro K hK
          go_simp
          refine hK.out _ _ hT (fun _ _ => hS) ?_
          clear hK K
          try simp only [Act.put, List.setIfInBounds_toArray, List.set_cons_zero, List.set_cons_succ]
          have HS6 := Lib.hid (HB3.out.below HB6.out)
          obtain ⟨s0, s1, s2, sf0, sf1, sf2⟩ := blk3 HS6.out
          refine two_one 21 rfl (by kernel_rfl) ?_
          intro K hK
          go_simp
          obtain ⟨x7, hx7⟩ : ∃ x7, x7 = x6.setCell ⟨sb, 0, none⟩ (.slice y6 m6 z6) := ⟨_, rfl⟩
          rw [← hx7]
          have hC7 : Chg (fun g => g = sb) x6 x7 := by rw [hx7]; exact (Chg.refl _ _).setCell (S := fun g => g = sb) (fun _ => rfl) _
          have HF := Lib.hid (show Blk x7 sb 67 #[.slice y6 m6 z6, .int .i64 log, .int .i64 next] by rw [hx7]; exact HS6.out.set 0 _)
          have HRD := Lib.hid ((HO6.out.chg hC7 (fun g e => .inl e)).rd.weak (N' := fun g => g < B) (fun g e => .inr e))
          have HBG := Lib.hid (show Below B w x7 from HBF.out.trans ((HB6.out.mono (by have := HLT.out.1; have := HB.out.size; omega)).trans (hC7.below (by have := HLT.out.1; have := HB.out.size; omega) (fun g hg e => by omega))))
          have hT1 : T8 w.heap.size i file (.slice fx files.length fc) key x7 := hT.chg hC7 (by omega) (by omega)
          refine hK.out _ _ hT1 (fun _ e => absurd rfl e) ?_
          refine two_done (by kernel_rfl) ?_ _
          clear hK K hT hS hx7 hC7 hT1 s0 s1 s2 sf0 sf1 sf2
          go_wp2_with fail
          go_ret
          refine ⟨HBG.out, ?_⟩
          rw [HD2.out]
          exact ⟨rfl, _, HF.out, HRD.out⟩
        · have hci2 : ¬ (cap - (i + 2) = cap) := by omega
          refine two_takeT 0 (some 185) (v := ?_) rfl rfl (by kernel_rfl) (by kernel_rfl) (by kernel_rfl) (by decide) (fun _ _ _ h => h) (Or.inl ⟨by rfl, ?hy0⟩) hT hS ?_
          case hy0 => (intro w' hT'; (try unfold T8 at hT'); go_simp; (try with_reducible rfl))
          try simp only [Act.put, List.setIfInBounds_toArray, List.set_cons_zero, List.set_cons_succ]
          refine two_takeT 1 (some 186) (v := ?_) rfl rfl (by kernel_rfl) (by kernel_rfl) (by kernel_rfl) (by decide) (fun _ _ _ h => h) (Or.inl ⟨by rfl, ?hy1⟩) hT hS ?_
          case hy1 => (intro w' hT'; (try unfold T8 at hT'); go_simp; (try with_reducible rfl))
          try simp only [Act.put, List.setIfInBounds_toArray, List.set_cons_zero, List.set_cons_succ]
          refine two_takeT 2 (some 187) (v := ?_) rfl rfl (by kernel_rfl) (by kernel_rfl) (by kernel_rfl) (by decide) (fun _ _ _ h => h) (Or.inl ⟨by rfl, ?hy2⟩) hT hS ?_
          case hy2 => (intro w' hT'; (try unfold T8 at hT'); go_simp; (try with_reducible rfl))
          try simp only [Act.put, List.setIfInBounds_toArray, List.set_cons_zero, List.set_cons_succ]
          refine two_takeT 3 (some 188) (v := ?_) rfl rfl (by kernel_rfl) (by kernel_rfl) (by kernel_rfl) (by decide) (fun _ _ _ h => h) (Or.inl ⟨by rfl, ?hy3⟩) hT hS ?_
          case hy3 => (intro w' hT'; (try unfold T8 at hT'); go_simp; (try with_reducible rfl))
          try simp only [Act.put, List.setIfInBounds_toArray, List.set_cons_zero, List.set_cons_succ]
          refine two_take 4 (some 189) (v := ?_) rfl rfl (by kernel_rfl) (by kernel_rfl) (by kernel_rfl) (by kernel_rfl) (by decide) (by kernel_rfl) (fun _ _ _ h => h) (Or.inl ⟨by rfl, ?hy4⟩) hT hS ?_
          case hy4 => (intro w' hS'; (try unfold S8 at hS'); (try unfold T8 at hS'); go_simp; (try with_reducible rfl))
          try simp only [Act.put, List.setIfInBounds_toArray, List.set_cons_zero, List.set_cons_succ]
          refine two_takeT 5 (some 190) (v := ?_) rfl rfl (by kernel_rfl) (by kernel_rfl) (by kernel_rfl) (by decide) (fun _ _ _ h => h) (Or.inl ⟨by rfl, ?hy5⟩) hT hS ?_
          case hy5 => (intro w' hT'; (try unfold T8 at hT'); go_simp; (try with_reducible rfl))
          try simp only [Act.put, List.setIfInBounds_toArray, List.set_cons_zero, List.set_cons_succ]
          refine two_takeT 6 (some 191) (v := ?_) rfl rfl (by kernel_rfl) (by kernel_rfl) (by kernel_rfl) (by decide) (fun _ _ _ h => h) (Or.inl ⟨by rfl, ?hy6⟩) hT hS ?_
          case hy6 => (intro w' hT'; (try unfold T8 at hT'); go_simp; (try with_reducible rfl))
          try simp only [Act.put, List.setIfInBounds_toArray, List.set_cons_zero, List.set_cons_succ]
          refine two_takeT 7 (some 192) (v := ?_) rfl rfl (by kernel_rfl) (by kernel_rfl) (by kernel_rfl) (by decide) (fun _ _ _ h => h) (Or.inl ⟨by rfl, ?hy7⟩) hT hS ?_
          case hy7 => (intro w' hT'; (try unfold T8 at hT'); go_simp; (try with_reducible rfl))
          try simp only [Act.put, List.setIfInBounds_toArray, List.set_cons_zero, List.set_cons_succ]
          refine two_takeT 8 (some 193) (v := ?_) rfl rfl (by kernel_rfl) (by kernel_rfl) (by kernel_rfl) (by decide) (fun _ _ _ h => h) (Or.inl ⟨by rfl, ?hy8⟩) hT hS ?_
          case hy8 => (intro w' hT'; (try unfold T8 at hT'); go_simp; (try with_reducible rfl))
          try simp only [Act.put, List.setIfInBounds_toArray, List.set_cons_zero, List.set_cons_succ]
          refine two_takeT 10 (some 195) (v := ?_) rfl rfl (by kernel_rfl) (by kernel_rfl) (by kernel_rfl) (by decide) (fun _ _ _ h => h) (Or.inl ⟨by rfl, ?hy10⟩) hT hS ?_
          case hy10 => (intro w' hT'; (try unfold T8 at hT'); go_simp; (try with_reducible rfl))
          try simp only [Act.put, List.setIfInBounds_toArray, List.set_cons_zero, List.set_cons_succ]
          refine two_takeT 11 (some 196) (v := ?_) rfl rfl (by kernel_rfl) (by kernel_rfl) (by kernel_rfl) (by decide) (fun _ _ _ h => h) (Or.inl ⟨by rfl, ?hy11⟩) hT hS ?_
          case hy11 => (intro w' hT'; (try unfold T8 at hT'); go_simp; (try with_reducible rfl))
          try simp only [Act.put, List.setIfInBounds_toArray, List.set_cons_zero, List.set_cons_succ]
          refine two_takeT 12 (some 197) (v := ?_) rfl rfl (by kernel_rfl) (by kernel_rfl) (by kernel_rfl) (by decide) (fun _ _ _ h => h) (Or.inl ⟨by rfl, ?hy12⟩) hT hS ?_
          case hy12 => (intro w' hT'; (try unfold T8 at hT'); go_simp; (try with_reducible rfl))
          try simp only [Act.put, List.setIfInBounds_toArray, List.set_cons_zero, List.set_cons_succ]
          refine two_take 13 (some 198) (v := ?_) rfl rfl (by kernel_rfl) (by kernel_rfl) (by kernel_rfl) (by kernel_rfl) (by decide) (by kernel_rfl) (fun _ _ _ h => h) (Or.inl ⟨by rfl, ?hy13⟩) hT hS ?_
          case hy13 => (intro w' hS'; (try unfold S8 at hS'); (try unfold T8 at hS'); go_simp; (try with_reducible rfl))
          try simp only [Act.put, List.setIfInBounds_toArray, List.set_cons_zero, List.set_cons_succ]
          refine two_takeT 14 (some 199) (v := ?_) rfl rfl (by kernel_rfl) (by kernel_rfl) (by kernel_rfl) (by decide) (fun _ _ _ h => h) (Or.inl ⟨by rfl, ?hy14⟩) hT hS ?_
          case hy14 => (intro w' hT'; (try unfold T8 at hT'); go_simp; (try with_reducible rfl))
          try simp only [Act.put, List.setIfInBounds_toArray, List.set_cons_zero, List.set_cons_succ]
          refine two_takeT 15 (some 200) (v := ?_) rfl rfl (by kernel_rfl) (by kernel_rfl) (by kernel_rfl) (by decide) (fun _ _ _ h => h) (Or.inl ⟨by rfl, ?hy15⟩) hT hS ?_
          case hy15 => (intro w' hT'; (try unfold T8 at hT'); go_simp; (try with_reducible rfl))
          try simp only [Act.put, List.setIfInBounds_toArray, List.set_cons_zero, List.set_cons_succ]
          refine two_takeT 16 (some 201) (v := ?_) rfl rfl (by kernel_rfl) (by kernel_rfl) (by kernel_rfl) (by decide) (fun _ _ _ h => h) (Or.inl ⟨by rfl, ?hy16⟩) hT hS ?_
          case hy16 => (intro w' hT'; (try unfold T8 at hT'); go_simp; (try with_reducible rfl))
          try simp only [Act.put, List.setIfInBounds_toArray, List.set_cons_zero, List.set_cons_succ]
          refine two_takeT 17 (some 202) (v := ?_) rfl rfl (by kernel_rfl) (by kernel_rfl) (by kernel_rfl) (by decide) (fun _ _ _ h => h) (Or.inl ⟨by rfl, ?hy17⟩) hT hS ?_
          case hy17 => (intro w' hT'; (try unfold T8 at hT'); go_simp; (try with_reducible rfl))
          try simp only [Act.put, List.setIfInBounds_toArray, List.set_cons_zero, List.set_cons_succ]
          refine two_one 9 rfl (by kernel_rfl) ?_
          intro K hK
          refine step_append_tn rfl (.const (.slice none 0 0)) (.tmp 193) (by rfl) (fun g => g = sb ∨ g < B) (.slice none 0 0) [] [] (by rfl) (OwnN.nil _ _) _ rfl (RW.take (i + 1)) (L.take (i + 1)) ?src
            (by simp only [List.length_nil, List.length_take]; omega) (fun g e => by have := HLT.out; have := HB.out.size; rcases e with rfl | e <;> omega) ?_
          case src => exact srcT_take (HR4.out.below HB4.out) hrlen (HEA.out x4 HB4.out _ (fun g hg => by cases hg)) (by show i + 1 ≤ L.length; omega)
          intro v5 x5 ho5 hg5 hv5
          rw [List.nil_append, List.nil_append] at ho5
          have hb5 : Below x4.heap.size x4 x5 := (Below.refl _ _).grown hg5 (Nat.le_refl _) (fun g hg => by cases hg)
          obtain ⟨y5, z5, hy5⟩ := ho5.form
          rw [show (L.take (i + 1)).length = i + 1 by rw [List.length_take]; omega] at hy5
          subst hy5
          have HV5 := Lib.hid (show ∀ g, (Value.slice y5 (i + 1) z5).ownBlock = some g → x3.heap.size ≤ g from fun g hg => by
            rcases hv5 with e | e
            · rw [e] at hg; cases hg
            · rw [hg] at e; injection e with e; omega)
          have hT1 : T8 w.heap.size i file (.slice fx files.length fc) key x5 := hT.below hb5 (by omega)
          have hS1 := (hb5.cell (p := ⟨sb, 0, none⟩) (by show sb < _; omega)).trans hS
          refine hK.out _ _ hT1 (fun _ _ => hS1) ?_
          have HO5 := Lib.hid ho5
          have HB5 := Lib.hid (HB4.out.trans (hb5.mono HB4.out.size))
          have hz5 := hb5.size
          clear hK K hT hS ho5 hg5 hv5 hb5
          have hT := hT1
          have hS := hS1
          clear hT1 hS1
          try simp only [Act.put, List.setIfInBounds_toArray, List.set_cons_zero, List.set_cons_succ]
          refine two_one 18 rfl (by kernel_rfl) ?_
          intro K hK
          refine step_append_tn rfl (.tmp 194) (.tmp 202) (by rfl) (fun g => g = sb ∨ g < B) (.slice y5 (i + 1) z5) (RW.take (i + 1)) (L.take (i + 1)) (by rfl) HO5.out _ rfl (RW.drop (i + 2)) (L.drop (i + 2)) ?src
            (by simp only [List.length_take, List.length_drop]; omega) (fun g e => by have := HLT.out; have := HB.out.size; rcases e with rfl | e <;> omega) ?_
          case src =>
            refine srcT_drop (HR4.out.below HB5.out) hrlen (HEA.out x5 HB5.out _ HV5.out) (by show i + 2 ≤ L.length; omega) ?_ ?_
            · show _ = L.length - _; omega
            · intro hlt
              first
                | rfl
                | exact absurd hlt (by show ¬ _ < L.length; omega)
          intro v6 x6 ho6 hg6 hv6
          have hC6 := chg_of_grown hg6
          have hnsb : ¬ ((Value.slice y5 (i + 1) z5).ownBlock = some sb) := fun e => by have := HV5.out sb e; omega
          have hnp : ¬ ((Value.slice y5 (i + 1) z5).ownBlock = some (w.heap.size + 1)) := fun e => by have := HV5.out _ e; omega
          obtain ⟨y6, z6, hy6⟩ := ho6.form
          obtain ⟨m6, hm6⟩ : ∃ m6, m6 = (L.take (i + 1) ++ L.drop (i + 2)).length := ⟨_, rfl⟩
          rw [← hm6] at hy6
          subst hy6
          have hT1 : T8 w.heap.size i file (.slice fx files.length fc) key x6 := hT.chg hC6 (by omega) hnp
          have hS1 := (hC6.cell (p := ⟨sb, 0, none⟩) (by show sb < _; omega) hnsb).trans hS
          refine hK.out _ _ hT1 (fun _ _ => hS1) ?_
          have HO6 := Lib.hid ho6
          have HB6 := Lib.hid (show Below x3.heap.size x3 x6 from HB5.out.grown hg6 (by omega) (fun k hk => HV5.out k hk))
          have hz6 := hC6.size
          clear hK K hT hS ho6 hg6 hv6 hC6 hm6
          have hT := hT1
          have hS := hS1
          clear hT1 hS1
          try simp only [Act.put, List.setIfInBounds_toArray, List.set_cons_zero, List.set_cons_succ]
          refine two_one 19 rfl (by kernel_rfl) ?_
          intro K hK
          go_simp
          refine hK.out _ _ hT (fun _ _ => hS) ?_
          clear hK K
          try simp only [Act.put, List.setIfInBounds_toArray, List.set_cons_zero, List.set_cons_succ]
          refine two_one 20 rfl (by kernel_rfl) ?_
          intro K hK
          go_simp
          refine hK.out _ _ hT (fun _ _ => hS) ?_
          clear hK K
          try simp only [Act.put, List.setIfInBounds_toArray, List.set_cons_zero, List.set_cons_succ]
          have HS6 := Lib.hid (HB3.out.below HB6.out)
          obtain ⟨s0, s1, s2, sf0, sf1, sf2⟩ := blk3 HS6.out
          refine two_one 21 rfl (by kernel_rfl) ?_
          intro K hK
          go_simp
          obtain ⟨x7, hx7⟩ : ∃ x7, x7 = x6.setCell ⟨sb, 0, none⟩ (.slice y6 m6 z6) := ⟨_, rfl⟩
          rw [← hx7]
          have hC7 : Chg (fun g => g = sb) x6 x7 := by rw [hx7]; exact (Chg.refl _ _).setCell (S := fun g => g = sb) (fun _ => rfl) _
          have HF := Lib.hid (show Blk x7 sb 67 #[.slice y6 m6 z6, .int .i64 log, .int .i64 next] by rw [hx7]; exact HS6.out.set 0 _)
          have HRD := Lib.hid ((HO6.out.chg hC7 (fun g e => .inl e)).rd.weak (N' := fun g => g < B) (fun g e => .inr e))
          have HBG := Lib.hid (show Below B w x7 from HBF.out.trans ((HB6.out.mono (by have := HLT.out.1; have := HB.out.size; omega)).trans (hC7.below (by have := HLT.out.1; have := HB.out.size; omega) (fun g hg e => by omega))))
          have hT1 : T8 w.heap.size i file (.slice fx files.length fc) key x7 := hT.chg hC7 (by omega) (by omega)
          refine hK.out _ _ hT1 (fun _ e => absurd rfl e) ?_
          refine two_done (by kernel_rfl) ?_ _
          clear hK K hT hS hx7 hC7 hT1 s0 s1 s2 sf0 sf1 sf2
          go_wp2_with fail
          go_ret
          refine ⟨HBG.out, ?_⟩
          rw [HD2.out]
          exact ⟨rfl, _, HF.out, HRD.out⟩
end Go.Proofs.Ytenbgfejonokdaa

/- Two tablets made one, walked; and all that an edit does. -/
import Derived.Test.YtcijhhnbhnaiaaaGreatEdSplit
namespace Go.Proofs.YtcijhhnbhnaiaaaGreat
set_option linter.unusedSimpArgs false
set_option linter.unusedVariables false
set_option maxRecDepth 100000
open Go.RowKit
attribute [local go_sem ↓] Go.wp_at_zero Go.wp_at_succ

theorem Rel.set {α β : Type} {R : α → β → Prop} {a : List α} {b : List β} (h : Rel R a b) (i : Nat) {x : α} {y : β} (hxy : R x y) : Rel R (a.set i x) (b.set i y) :=
  Rel.of (by rw [List.length_set, List.length_set, h.1]) fun j hj hj' => by
    by_cases e : i = j
    · subst e; rw [List.getElem_set_self, List.getElem_set_self]; exact hxy
    · rw [List.getElem_set_ne e, List.getElem_set_ne e]; exact h.idx j _ _
theorem set_cut {α : Type} : ∀ (l : List α) (i : Nat) (x : α) (_ : i < l.length), (l.set i x).take (i + 1) ++ (l.set i x).drop (i + 2) = l.take i ++ x :: l.drop (i + 2)
  | [], _, _, h => absurd h (by simp)
  | _ :: _, 0, _, _ => rfl
  | y :: l, i + 1, x, h => congrArg (List.cons y) (set_cut l i x (Nat.lt_of_succ_lt_succ h))
set_option maxHeartbeats 8000000 in
theorem does_merge {w : World} {B sb tb : Nat} {raw : List (ByteArray × Value)} {s : Ed.St} {e : Ed.Edit} {fv : Value} (h : Pre w B sb tb raw s e fv) (hsort : ∀ (j : Nat) (hj : j < s.l.length), s.l[j].tabs.Pairwise (· < ·)) (hk : e.kind = 4) (hr : 0 ≤ e.at_ ∧ e.at_ < s.l.length) :
    Calls Tryz.prog 57 #[.pointer (some ⟨sb, 0, none⟩), edV e fv] w (DoesPost w B sb (Ed.doesP s e)) := by
  have hD : Ed.doesP s e = if h2 : e.at_.toNat + 1 < s.l.length then some ⟨s.l.take e.at_.toNat ++ ⟨(s.l[e.at_.toNat]'(by omega)).frm, Ed.union (s.l[e.at_.toNat]'(by omega)).tabs s.l[e.at_.toNat + 1].tabs⟩ :: s.l.drop (e.at_.toNat + 2), s.log, s.next⟩ else none := by
    unfold Ed.doesP; rw [if_neg (by omega), dif_pos hr, if_neg (by omega), if_neg (by omega), if_neg (by omega), if_pos hk]
  obtain ⟨w1, hw1⟩ : ∃ w1, w1 = w.alloc (.cells #[.int .i64 e.kind, .int .i64 e.at_, .int .i64 e.file, fv, .string e.key] 44 (0, 0)) := ⟨_, rfl⟩
  obtain ⟨hbx, hp, hb⟩ := does_box h w1 hw1
  have hf := h.file
  have ha := h.at_
  have hfew := h.few
  obtain ⟨R, hR⟩ : ∃ R, R = Ed.doesP s e := ⟨_, rfl⟩
  rw [← hR]
  have HR := Lib.hid hR
  clear hR
  unfold edV
  obtain ⟨kind, at_, file, files, key⟩ := e
  obtain ⟨l, log, next⟩ := s
  simp only at hk hr hf ha hfew hbx hw1 HR hD hsort
  subst hk
  have s0 := hp.blk.cell 0
  have s2 := hp.blk.cell 2
  simp at s0 s2
  have e0 := hbx.cell 0
  have e1 := hbx.cell 1
  have e2 := hbx.cell 2
  have e3 := hbx.cell 3
  have e4 := hbx.cell 4
  simp at e0 e1 e2 e3 e4
  have HW := Lib.hid hw1
  have HP := Lib.hid hp
  have HB := Lib.hid hb
  have HL := Lib.hid h.lt
  have HX := Lib.hid hbx
  obtain ⟨fx, fc, rfl, _⟩ := h.files.rd.form
  have HL0 := Lib.hid (fun (j : Nat) (hj : j < raw.length) (g : Nat) (hg : raw[j].2.ownBlock = some g) => ((World.ownsRow.lt (h.own.each j hj (by have := h.own.len; omega)).2.1) g hg).2)
  clear h hp hb hbx
  rw [hw1] at s0 s2 e0 e1 e2 e3 e4
  clear hw1
  obtain ⟨hr0, hr1⟩ := hr
  obtain ⟨i, rfl⟩ : ∃ i : Nat, at_ = i := ⟨at_.toNat, by omega⟩
  have hil : i < l.length := by omega
  have d0 : decide ((i : Int) < 0) = false := decide_eq_false (by omega)
  have d1 : decide ((l.length : Int) ≤ i) = false := decide_eq_false (by omega)
  have hi0 : (0 : Int) ≤ i := by omega
  simp only [Int.toNat_natCast] at hD
  have HD := Lib.hid (HR.out.trans hD)
  clear HR hD
  have hw4 : IntKind.i64.wrap ((i : Int) + 1) = (i : Int) + 1 := by rw [IntKind.wrap_i64]; omega
  have hw5 : IntKind.i64.wrap ((i : Int) + 2) = (i : Int) + 2 := by rw [IntKind.wrap_i64]; omega
  have Hsort := Lib.hid hsort
  clear hsort
  go_enter Tryz.func57, Tryz.ntmps57
  go_wp2_with fail
  rw [← HW.out] at s0 s2 e0 e1 e2 e3 e4 ⊢
  go_quiet (fail)
  go_wp2_with fail
  obtain ⟨wq, hwq⟩ : ∃ wq, wq = w1.drewN nq := ⟨_, rfl⟩
  rw [← hwq]
  have hbq : Below w1.heap.size w1 wq := by rw [hwq]; exact below_drewN (Below.refl _ _) nq
  have HPq := Lib.hid (HP.out.below hbq)
  have HXq := Lib.hid (HX.out.below hbq)
  have HBq := Lib.hid (HB.out.trans (hbq.mono HB.out.size))
  rw [show w1.cell? = wq.cell? by rw [hwq]; rfl] at s0 s2 e0 e1 e2 e3 e4
  clear hbq hwq
  go_quiet (fail)
  go_wp2_with fail
  clear s0 s2 e0 e1 e2 e3 e4
  obtain ⟨w2, hw2⟩ : ∃ w2, w2 = wq.drewN nq := ⟨_, rfl⟩
  rw [← hw2]
  have hb2 : Below wq.heap.size wq w2 := by rw [hw2]; exact below_drewN (Below.refl _ _) nq
  have HP2 := Lib.hid (HPq.out.below hb2)
  have HX2 := Lib.hid (HXq.out.below hb2)
  have HB2 := Lib.hid (HBq.out.trans (hb2.mono HBq.out.size))
  have s0 := HP2.out.blk.cell 0
  have e1 := HX2.out.cell 1
  simp at s0 e1
  clear hb2 hw2
  by_cases hlast : i + 1 = l.length
  case pos =>
    have hq : ((i : Int) + 1 == (l.length : Int)) = true := by rw [beq_iff_eq]; omega
    have Hl := Lib.hid hlast
    clear hlast
    go_quiet (fail)
    go_wp2_with fail
    go_ret
    refine ⟨Chg.of_below (HB2.out.trans (below_drewN (Below.refl _ _) nq)), ?_⟩
    rw [HD.out, dif_neg (by have := Hl.out; omega)]
    exact rfl
  case neg =>
    have hq : ((i : Int) + 1 == (l.length : Int)) = false := by rw [beq_eq_false_iff_ne]; omega
    have hi1 : i + 1 < l.length := by omega
    go_quiet (fail)
    go_wp2_with fail
    have hlr : raw.length = l.length := HP.out.own.len
    have hir : i < raw.length := by omega
    have hir1 : i + 1 < raw.length := by omega
    refine wp_region_two (T := fun _ => True) (S := fun W => W.cell? ⟨sb, 0, none⟩ = some (.slice (some ⟨tb, 0, none⟩) l.length l.length) ∧ W.cell? ⟨w.heap.size, 1, none⟩ = some (.int .i64 i) ∧ W.cell? ⟨tb, i * 2 + 1, none⟩ = some raw[i].2 ∧ W.cell? ⟨tb, (i + 1) * 2 + 1, none⟩ = some raw[i + 1].2) (n := 18) (by kernel_rfl) ?_
    obtain ⟨w3, hw3⟩ : ∃ w3, w3 = (w2.drewN nq).drew := ⟨_, rfl⟩
    rw [← hw3]
    have hb3 : Below w2.heap.size w2 w3 := by rw [hw3]; exact (below_drewN (Below.refl _ _) nq).drew
    have HP3 := Lib.hid (HP2.out.below hb3)
    have HX3 := Lib.hid (HX2.out.below hb3)
    have HB3 := Lib.hid (HB2.out.trans (hb3.mono HB2.out.size))
    have hT : True := trivial
    have x1 := HX3.out.cell 1
    have x0 := HP3.out.blk.cell 0
    simp at x1 x0
    have hS : w3.cell? ⟨sb, 0, none⟩ = some (.slice (some ⟨tb, 0, none⟩) l.length l.length) ∧ w3.cell? ⟨w.heap.size, 1, none⟩ = some (.int .i64 i) ∧ w3.cell? ⟨tb, i * 2 + 1, none⟩ = some raw[i].2 ∧ w3.cell? ⟨tb, (i + 1) * 2 + 1, none⟩ = some raw[i + 1].2 := ⟨x0, x1, HP3.out.own.row.get _ _ (cellsT_get1 raw i hir), HP3.out.own.row.get _ _ (cellsT_get1 raw (i + 1) hir1)⟩
    have hlb : w.heap.size < w3.heap.size := HX3.out.lt
    have hlsb : sb < w3.heap.size := HP3.out.lt.2.1
    have hltb : tb < w3.heap.size := HP3.out.lt.2.2
    have HS := Lib.hid (show ∀ W : World, Below w3.heap.size w3 W → W.cell? ⟨sb, 0, none⟩ = some (.slice (some ⟨tb, 0, none⟩) l.length l.length) ∧ W.cell? ⟨w.heap.size, 1, none⟩ = some (.int .i64 i) ∧ W.cell? ⟨tb, i * 2 + 1, none⟩ = some raw[i].2 ∧ W.cell? ⟨tb, (i + 1) * 2 + 1, none⟩ = some raw[i + 1].2 from fun W hb =>
      ⟨(hb.cell (p := ⟨sb, 0, none⟩) hlsb).trans hS.1, (hb.cell (p := ⟨w.heap.size, 1, none⟩) hlb).trans hS.2.1, (hb.cell (p := ⟨tb, i * 2 + 1, none⟩) hltb).trans hS.2.2.1, (hb.cell (p := ⟨tb, (i + 1) * 2 + 1, none⟩) hltb).trans hS.2.2.2⟩)
    obtain ⟨tv, htv⟩ : ∃ tv, tv = raw[i].2 := ⟨_, rfl⟩
    obtain ⟨tu, htu⟩ : ∃ tu, tu = raw[i + 1].2 := ⟨_, rfl⟩
    rw [← htv, ← htu] at hS HS ⊢
    have htl : l[i].tabs.length ≤ 1000 := HP3.out.tabs i hil
    have htl1 : l[i + 1].tabs.length ≤ 1000 := HP3.out.tabs (i + 1) hi1
    have hrd : RdI w3 tv l[i].tabs := by rw [htv]; exact (HP3.out.own.each i hir hil).2.1.rd
    have hrd1 : RdI w3 tu l[i + 1].tabs := by rw [htu]; exact (HP3.out.own.each (i + 1) hir1 hi1).2.1.rd
    have HU := Lib.hid (unionI_any tv tu l[i].tabs l[i + 1].tabs w3 hrd hrd1 (by omega))
    rw [Ed.union_compact _ (Hsort.out i hil)] at HU
    have hulen := Ed.union_len l[i + 1].tabs l[i].tabs
    obtain ⟨U, hU⟩ : ∃ U, U = Ed.union l[i].tabs l[i + 1].tabs := ⟨_, rfl⟩
    rw [← hU] at HU hulen
    have HUU := Lib.hid hU
    have hj1 : (0 : Int) ≤ (i : Int) + 1 := by omega
    have hj2 : (i : Int) + 1 < l.length := by omega
    have hj3 : ((i : Int) + 1).toNat = i + 1 := by omega
    clear hw3 hb3 htv htu x0 x1 hrd hrd1 hU htl htl1 s0 e1
    refine two_take 0 (some 117) (v := ?_) rfl rfl (by kernel_rfl) (by kernel_rfl) (by kernel_rfl) (by kernel_rfl) (by decide) (by kernel_rfl) (fun _ _ _ h => h) (Or.inl ⟨by rfl, ?hy0⟩) hT hS ?_
    case hy0 => (intro w' hS'; (try unfold S8 at hS'); go_simp; (try with_reducible rfl))
    try simp only [Act.put, List.setIfInBounds_toArray, List.set_cons_zero, List.set_cons_succ]
    refine two_take 1 (some 118) (v := ?_) rfl rfl (by kernel_rfl) (by kernel_rfl) (by kernel_rfl) (by kernel_rfl) (by decide) (by kernel_rfl) (fun _ _ _ h => h) (Or.inl ⟨by rfl, ?hy1⟩) hT hS ?_
    case hy1 => (intro w' hS'; (try unfold S8 at hS'); go_simp; (try with_reducible rfl))
    try simp only [Act.put, List.setIfInBounds_toArray, List.set_cons_zero, List.set_cons_succ]
    refine two_take 2 (some 119) (v := ?_) rfl rfl (by kernel_rfl) (by kernel_rfl) (by kernel_rfl) (by kernel_rfl) (by decide) (by kernel_rfl) (fun _ _ _ h => h) (Or.inl ⟨by rfl, ?hy2⟩) hT hS ?_
    case hy2 => (intro w' hS'; (try unfold S8 at hS'); go_simp; (try with_reducible rfl))
    try simp only [Act.put, List.setIfInBounds_toArray, List.set_cons_zero, List.set_cons_succ]
    refine two_take 3 (some 120) (v := ?_) rfl rfl (by kernel_rfl) (by kernel_rfl) (by kernel_rfl) (by kernel_rfl) (by decide) (by kernel_rfl) (fun _ _ _ h => h) (Or.inl ⟨by rfl, ?hy3⟩) hT hS ?_
    case hy3 => (intro w' hS'; (try unfold S8 at hS'); go_simp; (try with_reducible rfl))
    try simp only [Act.put, List.setIfInBounds_toArray, List.set_cons_zero, List.set_cons_succ]
    refine two_take 4 (some 121) (v := ?_) rfl rfl (by kernel_rfl) (by kernel_rfl) (by kernel_rfl) (by kernel_rfl) (by decide) (by kernel_rfl) (fun _ _ _ h => h) (Or.inl ⟨by rfl, ?hy4⟩) hT hS ?_
    case hy4 => (intro w' hS'; (try unfold S8 at hS'); go_simp; (try with_reducible rfl))
    try simp only [Act.put, List.setIfInBounds_toArray, List.set_cons_zero, List.set_cons_succ]
    refine two_take 5 (some 122) (v := ?_) rfl rfl (by kernel_rfl) (by kernel_rfl) (by kernel_rfl) (by kernel_rfl) (by decide) (by kernel_rfl) (fun _ _ _ h => h) (Or.inl ⟨by rfl, ?hy5⟩) hT hS ?_
    case hy5 => (intro w' hS'; (try unfold S8 at hS'); go_simp; (try with_reducible rfl))
    try simp only [Act.put, List.setIfInBounds_toArray, List.set_cons_zero, List.set_cons_succ]
    refine two_take 6 (some 123) (v := ?_) rfl rfl (by kernel_rfl) (by kernel_rfl) (by kernel_rfl) (by kernel_rfl) (by decide) (by kernel_rfl) (fun _ _ _ h => h) (Or.inl ⟨by rfl, ?hy6⟩) hT hS ?_
    case hy6 => (intro w' hS'; (try unfold S8 at hS'); go_simp; (try with_reducible rfl))
    try simp only [Act.put, List.setIfInBounds_toArray, List.set_cons_zero, List.set_cons_succ]
    refine two_take 7 (some 124) (v := ?_) rfl rfl (by kernel_rfl) (by kernel_rfl) (by kernel_rfl) (by kernel_rfl) (by decide) (by kernel_rfl) (fun _ _ _ h => h) (Or.inl ⟨by rfl, ?hy7⟩) hT hS ?_
    case hy7 => (intro w' hS'; (try unfold S8 at hS'); go_simp; (try with_reducible rfl))
    try simp only [Act.put, List.setIfInBounds_toArray, List.set_cons_zero, List.set_cons_succ]
    refine two_take 8 (some 125) (v := ?_) rfl rfl (by kernel_rfl) (by kernel_rfl) (by kernel_rfl) (by kernel_rfl) (by decide) (by kernel_rfl) (fun _ _ _ h => h) (Or.inl ⟨by rfl, ?hy8⟩) hT hS ?_
    case hy8 => (intro w' hS'; (try unfold S8 at hS'); go_simp; (try with_reducible rfl))
    try simp only [Act.put, List.setIfInBounds_toArray, List.set_cons_zero, List.set_cons_succ]
    refine two_take 9 (some 126) (v := ?_) rfl rfl (by kernel_rfl) (by kernel_rfl) (by kernel_rfl) (by kernel_rfl) (by decide) (by kernel_rfl) (fun _ _ _ h => h) (Or.inl ⟨by rfl, ?hy9⟩) hT hS ?_
    case hy9 => (intro w' hS'; (try unfold S8 at hS'); go_simp; (try with_reducible rfl))
    try simp only [Act.put, List.setIfInBounds_toArray, List.set_cons_zero, List.set_cons_succ]
    refine two_take 10 (some 127) (v := ?_) rfl rfl (by kernel_rfl) (by kernel_rfl) (by kernel_rfl) (by kernel_rfl) (by decide) (by kernel_rfl) (fun _ _ _ h => h) (Or.inl ⟨by rfl, ?hy10⟩) hT hS ?_
    case hy10 => (intro w' hS'; (try unfold S8 at hS'); go_simp; (try with_reducible rfl))
    try simp only [Act.put, List.setIfInBounds_toArray, List.set_cons_zero, List.set_cons_succ]
    refine two_take 11 (some 128) (v := ?_) rfl rfl (by kernel_rfl) (by kernel_rfl) (by kernel_rfl) (by kernel_rfl) (by decide) (by kernel_rfl) (fun _ _ _ h => h) (Or.inl ⟨by rfl, ?hy11⟩) hT hS ?_
    case hy11 => (intro w' hS'; (try unfold S8 at hS'); go_simp; (try with_reducible rfl))
    try simp only [Act.put, List.setIfInBounds_toArray, List.set_cons_zero, List.set_cons_succ]
    refine two_take 12 (some 129) (v := ?_) rfl rfl (by kernel_rfl) (by kernel_rfl) (by kernel_rfl) (by kernel_rfl) (by decide) (by kernel_rfl) (fun _ _ _ h => h) (Or.inl ⟨by rfl, ?hy12⟩) hT hS ?_
    case hy12 => (intro w' hS'; (try unfold S8 at hS'); go_simp; (try with_reducible rfl))
    try simp only [Act.put, List.setIfInBounds_toArray, List.set_cons_zero, List.set_cons_succ]
    refine two_take 13 (some 130) (v := ?_) rfl rfl (by kernel_rfl) (by kernel_rfl) (by kernel_rfl) (by kernel_rfl) (by decide) (by kernel_rfl) (fun _ _ _ h => h) (Or.inl ⟨by rfl, ?hy13⟩) hT hS ?_
    case hy13 => (intro w' hS'; (try unfold S8 at hS'); go_simp; (try with_reducible rfl))
    try simp only [Act.put, List.setIfInBounds_toArray, List.set_cons_zero, List.set_cons_succ]
    refine two_take 14 (some 131) (v := ?_) rfl rfl (by kernel_rfl) (by kernel_rfl) (by kernel_rfl) (by kernel_rfl) (by decide) (by kernel_rfl) (fun _ _ _ h => h) (Or.inl ⟨by rfl, ?hy14⟩) hT hS ?_
    case hy14 => (intro w' hS'; (try unfold S8 at hS'); go_simp; (try with_reducible rfl))
    try simp only [Act.put, List.setIfInBounds_toArray, List.set_cons_zero, List.set_cons_succ]
    refine two_one 15 rfl (by kernel_rfl) ?_
    intro K hK
    go_simp
    refine HU.out.mono ?_
    rintro e wA ⟨v2, rfl, ho, hbA⟩
    have hu : ∀ g, v2.ownBlock = some g → g ≠ tb ∧ g ≠ sb := fun g hg => by have := ((World.ownsRow.lt ho) g hg).1; omega
    have Hv := Lib.hid hu
    obtain ⟨x1, c1, hv1, _⟩ := ho.rd.form
    obtain ⟨LN, hLN⟩ : ∃ LN, LN = U.length := ⟨_, rfl⟩
    rw [← hLN] at hv1
    subst hv1
    have HLN := Lib.hid hLN
    have HO := Lib.hid ho
    have HPA := Lib.hid (HP3.out.below hbA)
    have HXA := Lib.hid (HX3.out.below hbA)
    have HBA := Lib.hid (HB3.out.trans (hbA.mono HB3.out.size))
    have hSA := HS.out wA hbA
    refine hK.out _ _ trivial (fun _ _ => hSA) ?_
    clear hK K hS ho hbA hLN hu HU
    try simp only [Act.put, List.setIfInBounds_toArray, List.set_cons_zero, List.set_cons_succ]
    refine two_one 16 rfl (by kernel_rfl) ?_
    intro K hK
    go_simp
    refine hK.out _ _ trivial (fun _ _ => hSA) ?_
    clear hK K
    try simp only [Act.put, List.setIfInBounds_toArray, List.set_cons_zero, List.set_cons_succ]
    refine two_one 17 rfl (by kernel_rfl) ?_
    intro K hK
    go_simp
    refine hK.out _ _ trivial (fun _ _ => hSA) ?_
    clear hK K
    try simp only [Act.put, List.setIfInBounds_toArray, List.set_cons_zero, List.set_cons_succ]
    have c3 := HPA.out.own.row.cell (i * 2 + 1) (by rw [cellsT_length]; omega)
    have f3 := HPA.out.own.row.free (i * 2 + 1) (by rw [cellsT_length]; omega)
    generalize (cellsT raw)[i * 2 + 1]'(by rw [cellsT_length]; omega) = old at c3
    refine two_one 18 rfl (by kernel_rfl) ?_
    intro K hK
    go_simp
    obtain ⟨wB, hwB⟩ : ∃ wB, wB = wA.setCell ⟨tb, i * 2 + 1, none⟩ (.slice x1 LN c1) := ⟨_, rfl⟩
    rw [← hwB]
    refine hK.out _ _ trivial (fun _ e => absurd rfl e) ?_
    refine two_done (by kernel_rfl) ?_ _
    have hRB : RowAt wB tb (cellsT (raw.set i (raw[i].1, .slice x1 LN c1))) := by
      rw [hwB, ← cellsT_set1 raw i hir]
      exact HPA.out.own.row.set (i * 2 + 1) (by rw [cellsT_length]; omega) _
    have hCB : Chg (fun g => g = tb) wA wB := by rw [hwB]; exact Chg.setCell (S := fun g => g = tb) (Chg.refl _ _) (fun _ => rfl) _
    have hne := HPA.out.ne
    have hneb : w.heap.size ≠ tb := by have := HL.out; omega
    have hBB : Blk wB sb 28 #[.slice (some ⟨tb, 0, none⟩) l.length l.length, .int .i64 log, .int .i64 next] := HPA.out.blk.chg hCB (by show ¬ sb = tb; exact hne)
    have hXB : Blk wB w.heap.size 44 _ := HXA.out.chg hCB hneb
    have hOB := HO.out.chg hCB fun g hg e => (Hv.out g hg).1 e
    have HRB := Lib.hid hRB
    have HCB := Lib.hid hCB
    have HBB := Lib.hid hBB
    have HXB := Lib.hid hXB
    have HOB := Lib.hid hOB
    clear hK K hwB c3 f3 hSA hRB hCB hBB hXB hOB
    go_wp2_with fail
    refine wp_region_two (T := fun _ => True) (S := fun W => W.cell? ⟨sb, 0, none⟩ = some (.slice (some ⟨tb, 0, none⟩) l.length l.length) ∧ W.cell? ⟨w.heap.size, 1, none⟩ = some (.int .i64 i)) (n := 14) (by kernel_rfl) ?_
    obtain ⟨wC, hwC⟩ : ∃ wC, wC = wB.drew := ⟨_, rfl⟩
    rw [← hwC]
    have hbC : Below wB.heap.size wB wC := by rw [hwC]; exact (Below.refl _ _).drew
    have HRC := Lib.hid (HRB.out.below hbC)
    have HBC := Lib.hid (HBB.out.below hbC)
    have HOC := Lib.hid (HOB.out.kept hbC)
    have HCC := Lib.hid (HCB.out.trans (Chg.of_below hbC))
    have x0 := HBC.out.cell 0
    have x1' := (HXB.out.below hbC).cell 1
    simp at x0 x1'
    have hS : wC.cell? ⟨sb, 0, none⟩ = some (.slice (some ⟨tb, 0, none⟩) l.length l.length) ∧ wC.cell? ⟨w.heap.size, 1, none⟩ = some (.int .i64 i) := ⟨x0, x1'⟩
    have hone : ∀ (j : Nat) (hj : j < (raw.set i (raw[i].1, Value.slice x1 LN c1)).length), (raw.set i (raw[i].1, Value.slice x1 LN c1))[j].2.oneCell' = true := fun j hj => by
      by_cases e : i = j
      · subst e; rw [List.getElem_set_self]; rfl
      · rw [List.getElem_set_ne e]
        rw [List.length_set] at hj
        exact (HPA.out.own.each j hj (show j < l.length by omega)).2.1.rd.one
    have HDel := Lib.hid (show Calls Tryz.prog 75 #[.slice (some ⟨tb, 0, none⟩) l.length l.length, .int .i64 ((i : Int) + 1), .int .i64 ((i : Int) + 2)] wC _ from by
      have h := deleteT_any tb l.length (i + 1) (raw.set i (raw[i].1, .slice x1 LN c1)) wC HRC.out (by rw [List.length_set, hlr]) (by omega) (by omega) hone
      rw [show (((i + 1 : Nat) : Int) + 1) = (i : Int) + 2 by push_cast; omega, show ((i + 1 : Nat) : Int) = (i : Int) + 1 by push_cast; rfl] at h
      exact h)
    clear hwC hbC x0 x1' hone
    refine two_take 0 (some 135) (v := ?_) rfl rfl (by kernel_rfl) (by kernel_rfl) (by kernel_rfl) (by kernel_rfl) (by decide) (by kernel_rfl) (fun _ _ _ h => h) (Or.inl ⟨by rfl, ?hy0⟩) hT hS ?_
    case hy0 => (intro w' hS'; (try unfold S8 at hS'); go_simp; (try with_reducible rfl))
    try simp only [Act.put, List.setIfInBounds_toArray, List.set_cons_zero, List.set_cons_succ]
    refine two_take 1 (some 136) (v := ?_) rfl rfl (by kernel_rfl) (by kernel_rfl) (by kernel_rfl) (by kernel_rfl) (by decide) (by kernel_rfl) (fun _ _ _ h => h) (Or.inl ⟨by rfl, ?hy1⟩) hT hS ?_
    case hy1 => (intro w' hS'; (try unfold S8 at hS'); go_simp; (try with_reducible rfl))
    try simp only [Act.put, List.setIfInBounds_toArray, List.set_cons_zero, List.set_cons_succ]
    refine two_take 2 (some 137) (v := ?_) rfl rfl (by kernel_rfl) (by kernel_rfl) (by kernel_rfl) (by kernel_rfl) (by decide) (by kernel_rfl) (fun _ _ _ h => h) (Or.inl ⟨by rfl, ?hy2⟩) hT hS ?_
    case hy2 => (intro w' hS'; (try unfold S8 at hS'); go_simp; (try with_reducible rfl))
    try simp only [Act.put, List.setIfInBounds_toArray, List.set_cons_zero, List.set_cons_succ]
    refine two_take 3 (some 138) (v := ?_) rfl rfl (by kernel_rfl) (by kernel_rfl) (by kernel_rfl) (by kernel_rfl) (by decide) (by kernel_rfl) (fun _ _ _ h => h) (Or.inl ⟨by rfl, ?hy3⟩) hT hS ?_
    case hy3 => (intro w' hS'; (try unfold S8 at hS'); go_simp; (try with_reducible rfl))
    try simp only [Act.put, List.setIfInBounds_toArray, List.set_cons_zero, List.set_cons_succ]
    refine two_take 4 (some 139) (v := ?_) rfl rfl (by kernel_rfl) (by kernel_rfl) (by kernel_rfl) (by kernel_rfl) (by decide) (by kernel_rfl) (fun _ _ _ h => h) (Or.inl ⟨by rfl, ?hy4⟩) hT hS ?_
    case hy4 => (intro w' hS'; (try unfold S8 at hS'); go_simp; (try with_reducible rfl))
    try simp only [Act.put, List.setIfInBounds_toArray, List.set_cons_zero, List.set_cons_succ]
    refine two_take 5 (some 140) (v := ?_) rfl rfl (by kernel_rfl) (by kernel_rfl) (by kernel_rfl) (by kernel_rfl) (by decide) (by kernel_rfl) (fun _ _ _ h => h) (Or.inl ⟨by rfl, ?hy5⟩) hT hS ?_
    case hy5 => (intro w' hS'; (try unfold S8 at hS'); go_simp; (try with_reducible rfl))
    try simp only [Act.put, List.setIfInBounds_toArray, List.set_cons_zero, List.set_cons_succ]
    refine two_take 6 (some 141) (v := ?_) rfl rfl (by kernel_rfl) (by kernel_rfl) (by kernel_rfl) (by kernel_rfl) (by decide) (by kernel_rfl) (fun _ _ _ h => h) (Or.inl ⟨by rfl, ?hy6⟩) hT hS ?_
    case hy6 => (intro w' hS'; (try unfold S8 at hS'); go_simp; (try with_reducible rfl))
    try simp only [Act.put, List.setIfInBounds_toArray, List.set_cons_zero, List.set_cons_succ]
    refine two_take 7 (some 142) (v := ?_) rfl rfl (by kernel_rfl) (by kernel_rfl) (by kernel_rfl) (by kernel_rfl) (by decide) (by kernel_rfl) (fun _ _ _ h => h) (Or.inl ⟨by rfl, ?hy7⟩) hT hS ?_
    case hy7 => (intro w' hS'; (try unfold S8 at hS'); go_simp; (try with_reducible rfl))
    try simp only [Act.put, List.setIfInBounds_toArray, List.set_cons_zero, List.set_cons_succ]
    refine two_take 8 (some 143) (v := ?_) rfl rfl (by kernel_rfl) (by kernel_rfl) (by kernel_rfl) (by kernel_rfl) (by decide) (by kernel_rfl) (fun _ _ _ h => h) (Or.inl ⟨by rfl, ?hy8⟩) hT hS ?_
    case hy8 => (intro w' hS'; (try unfold S8 at hS'); go_simp; (try with_reducible rfl))
    try simp only [Act.put, List.setIfInBounds_toArray, List.set_cons_zero, List.set_cons_succ]
    refine two_take 9 (some 144) (v := ?_) rfl rfl (by kernel_rfl) (by kernel_rfl) (by kernel_rfl) (by kernel_rfl) (by decide) (by kernel_rfl) (fun _ _ _ h => h) (Or.inl ⟨by rfl, ?hy9⟩) hT hS ?_
    case hy9 => (intro w' hS'; (try unfold S8 at hS'); go_simp; (try with_reducible rfl))
    try simp only [Act.put, List.setIfInBounds_toArray, List.set_cons_zero, List.set_cons_succ]
    refine two_take 10 (some 145) (v := ?_) rfl rfl (by kernel_rfl) (by kernel_rfl) (by kernel_rfl) (by kernel_rfl) (by decide) (by kernel_rfl) (fun _ _ _ h => h) (Or.inl ⟨by rfl, ?hy10⟩) hT hS ?_
    case hy10 => (intro w' hS'; (try unfold S8 at hS'); go_simp; (try with_reducible rfl))
    try simp only [Act.put, List.setIfInBounds_toArray, List.set_cons_zero, List.set_cons_succ]
    refine two_one 11 rfl (by kernel_rfl) ?_
    intro K hK
    go_simp
    refine HDel.out.mono ?_
    rintro e wD ⟨rfl, hrow, hCD⟩
    have hSD : wD.cell? ⟨sb, 0, none⟩ = some (.slice (some ⟨tb, 0, none⟩) l.length l.length) ∧ wD.cell? ⟨w.heap.size, 1, none⟩ = some (.int .i64 i) :=
      ⟨(hCD.cell (p := ⟨sb, 0, none⟩) HBC.out.lt hne).trans hS.1, (hCD.cell (p := ⟨w.heap.size, 1, none⟩) (by have := HXB.out.lt; have := HCC.out.size; have := HBA.out.size; have := HXA.out.lt; show w.heap.size < wC.heap.size; omega) hneb).trans hS.2⟩
    refine hK.out _ _ trivial (fun _ _ => hSD) ?_
    have HBD := Lib.hid (HBC.out.chg hCD (by show ¬ sb = tb; exact hne))
    have HRD := Lib.hid hrow
    have HOD := Lib.hid (HOC.out.chg hCD fun g hg e => (Hv.out g hg).1 e)
    have HCD := Lib.hid (HCC.out.trans hCD)
    have y0 := HBD.out.cell 0
    have y0f := HBD.out.free 0
    simp at y0
    clear hK K hS hrow hCD HDel
    try simp only [Act.put, List.setIfInBounds_toArray, List.set_cons_zero, List.set_cons_succ]
    refine two_one 12 rfl (by kernel_rfl) ?_
    intro K hK
    go_simp
    refine hK.out _ _ trivial (fun _ _ => hSD) ?_
    clear hK K
    try simp only [Act.put, List.setIfInBounds_toArray, List.set_cons_zero, List.set_cons_succ]
    refine two_one 13 rfl (by kernel_rfl) ?_
    intro K hK
    go_simp
    refine hK.out _ _ trivial (fun _ _ => hSD) ?_
    clear hK K
    try simp only [Act.put, List.setIfInBounds_toArray, List.set_cons_zero, List.set_cons_succ]
    refine two_one 14 rfl (by kernel_rfl) ?_
    intro K hK
    go_simp
    obtain ⟨wE, hwE⟩ : ∃ wE, wE = wD.setCell ⟨sb, 0, none⟩ (.slice (some ⟨tb, 0, none⟩) (l.length - 1) l.length) := ⟨_, rfl⟩
    rw [← hwE]
    refine hK.out _ _ trivial (fun _ e => absurd rfl e) ?_
    refine two_done (by kernel_rfl) ?_ _
    have hCE : Chg (fun g => g = sb) wD wE := by rw [hwE]; exact Chg.setCell (S := fun g => g = sb) (Chg.refl _ _) (fun _ => rfl) _
    have HBE := Lib.hid (show Blk wE sb 28 #[.slice (some ⟨tb, 0, none⟩) (l.length - 1) l.length, .int .i64 log, .int .i64 next] by rw [hwE]; exact HBD.out.set 0 _)
    have hall : Chg (fun g => g = tb ∨ g = sb) wA wE := (HCD.out.mono fun k _ h => .inl h).trans (hCE.mono fun k _ h => .inr h)
    have Hfin := Lib.hid (show Chg (fun g => g = sb ∨ B ≤ g) w wE from (Chg.of_below HBA.out).trans (hall.mono fun g _ e => by
      rcases e with e | e
      · exact .inr (by have := HPA.out.own.base; omega)
      · exact .inl e))
    have hrel : Rel (fun p t => p.1 = t.frm ∧ RdIU wE B p.2 t.tabs) raw l := Rel.of hlr fun j hj hj' => by
      obtain ⟨h1, h2, h3⟩ := HPA.out.own.each j hj hj'
      exact ⟨h1, (h2.chg hall fun g hg e2 => by
        rcases e2 with e2 | e2
        · exact h3 (by rw [hg, e2])
        · exact HPA.out.far j hj (by rw [hg, e2])).rdu⟩
    have hrel2 := hrel.set i (x := (raw[i].1, Value.slice x1 LN c1)) (y := ⟨l[i].frm, U⟩) ⟨(hrel.idx i hir hil).1, ((HOD.out.base HP3.out.lt.1).chg hCE fun g hg e => (Hv.out g hg).2 e).rdu⟩
    have hrel3 := (hrel2.take (i + 1)).append (hrel2.drop (i + 2))
    rw [set_cut l i _ hil] at hrel3
    have Hrd := Lib.hid (show RdTB wE B (.slice (some ⟨tb, 0, none⟩) (l.length - 1) l.length) (l.take i ++ ⟨l[i].frm, U⟩ :: l.drop (i + 2)) from
      rdT_of_rel HPA.out.own.base (HRD.out.chg hCE (fun e => hne e.symm)) (by simp only [List.length_append, List.length_take, List.length_cons, List.length_drop]; omega) hrel3)
    clear hK K hwE hCE hall hrel hrel2 hrel3 y0 y0f hSD
    go_wp2_with fail
    go_ret
    refine ⟨Hfin.out, ?_⟩
    rw [HD.out, dif_pos hi1, ← HUU.out]
    exact ⟨rfl, _, HBE.out, Hrd.out⟩
/-- All that an edit does. -/
theorem does_any {w : World} {B sb tb : Nat} {raw : List (ByteArray × Value)} {s : Ed.St} {e : Ed.Edit} {fv : Value} (h : Pre w B sb tb raw s e fv) (hsort : ∀ (j : Nat) (hj : j < s.l.length), s.l[j].tabs.Pairwise (· < ·)) :
    Calls Tryz.prog 57 #[.pointer (some ⟨sb, 0, none⟩), edV e fv] w (DoesPost w B sb (Ed.doesP s e)) := by
  by_cases h5 : e.kind = 5
  · exact does_log h h5
  by_cases hr : 0 ≤ e.at_ ∧ e.at_ < s.l.length
  · by_cases h1 : e.kind = 1
    · exact does_table h h1 hr
    by_cases h2 : e.kind = 2
    · exact does_swap h h2 hr
    by_cases h3 : e.kind = 3
    · exact does_split h h3 hr
    by_cases h4 : e.kind = 4
    · exact does_merge h hsort h4 hr
    exact does_other h ⟨h5, h1, h2, h3, h4⟩ hr
  · exact does_out h h5 hr
end Go.Proofs.YtcijhhnbhnaiaaaGreat

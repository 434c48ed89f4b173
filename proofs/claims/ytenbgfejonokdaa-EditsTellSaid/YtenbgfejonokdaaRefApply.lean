/- The state behind an edit, by the document, walked. -/
import Derived.Test.YtenbgfejonokdaaRefTab4
import Derived.Test.YtenbgfejonokdaaRefCheck
namespace Go.Proofs.Ytenbgfejonokdaa
set_option linter.unusedSimpArgs false
set_option linter.unusedVariables false
set_option maxRecDepth 100000
open Go.RowKit
attribute [local go_sem ↓] Go.wp_at_zero Go.wp_at_succ

/-- What the document's 'Apply' hands back. -/
def RefAppPost (w : World) (r : Option Ed.St) (e : Ending) (w' : World) : Prop :=
  Below w.heap.size w w' ∧ match r with
    | some s' => ∃ tv', e = .returned (.tuple #[stV tv' s'.log s'.next, .bool true]) ∧ RdTCN w' (fun g => g < w.heap.size) tv' s'.l
    | none => e = .returned (.tuple #[stV (.slice none 0 0) 0 0, .bool false])
theorem doesR_fits {s s' : Ed.St} {e : Ed.Edit} (h : Ed.Valid s) (hf : e.files.length ≤ 1000) (hk : e.key.size ≤ maxLen) (hd : Ed.doesR s e = some s') : Fits s'.l := by
  unfold Ed.doesR at hd
  split at hd
  · rename_i hk2
    split at hd
    · rename_i hr
      split at hd
      · rename_i hall
        injection hd with hd
        subst hd
        refine doesP_fits h hf hk (s' := ⟨_, s.log, match e.files.getLast? with | none => s.next | some k => max s.next (RowKit.wrap64 (k + 1))⟩) ?_
        unfold Ed.doesP
        rw [if_neg (by omega), dif_pos hr, if_neg (by omega), if_pos hk2, if_pos hall]
        rfl
      · cases hd
    · cases hd
  · exact doesP_fits h hf hk hd
theorem doesR_log {s : Ed.St} {e : Ed.Edit} (hk : e.kind = 5) : Ed.doesR s e = if s.next ≤ e.file then some ⟨s.l, e.file, e.file + 1⟩ else none := by
  unfold Ed.doesR Ed.doesP
  rw [if_neg (by omega), if_pos hk]
theorem doesR_out {s : Ed.St} {e : Ed.Edit} (hk : e.kind ≠ 5) (hr : ¬ (0 ≤ e.at_ ∧ e.at_ < s.l.length)) : Ed.doesR s e = none := by
  unfold Ed.doesR Ed.doesP
  rw [if_neg hk, dif_neg hr, dif_neg hr]
  split <;> rfl
theorem tablet_any {w : World} {B sb tb cap : Nat} {raw : List (ByteArray × Value)} {s : Ed.St} {tv0 : Value} {e : Ed.Edit} {fv : Value} {i : Nat} (h : RPre w B sb tb cap raw s tv0 e fv i) (hk : e.kind ≠ 5) :
    Calls Try.prog 99 #[.pointer (some ⟨sb, 0, none⟩), stV tv0 s.log s.next, edV e fv] w (RTPost w B sb (Ed.doesR s e)) := by
  by_cases h1 : e.kind = 1
  · exact tablet_table h h1
  by_cases h2 : e.kind = 2
  · exact tablet_swap h h2
  by_cases h3 : e.kind = 3
  · exact tablet_split h h3
  by_cases h4 : e.kind = 4
  · exact tablet_merge h h4
  · exact tablet_bad h e.kind rfl h1 h2 h3 h4 hk
set_option maxHeartbeats 1000000 in
theorem refApply_any (tv : Value) (s : Ed.St) (e : Ed.Edit) (fv : Value) (w : World) (h : RdTC w tv s.l) (hf : Fits s.l) (hfl : RdI w fv e.files) (hff : e.files.length ≤ 1000) (hkey : e.key.size ≤ maxLen) (hat : -9223372036854775808 ≤ e.at_ ∧ e.at_ ≤ 9223372036854775807) :
    Calls Try.prog 43 #[stV tv s.log s.next, edV e fv] w (RefAppPost w (Ed.applyP s e)) := by
  obtain ⟨w3, hw3⟩ : ∃ w3, w3 = ((w.alloc (.cells #[tv, .int .i64 s.log, .int .i64 s.next] 67 (0, 0))).alloc (.cells #[.int .i64 e.kind, .int .i64 e.at_, .int .i64 e.file, fv, .string e.key] 74 (0, 0))).alloc (.cells #[.slice none 0 0, .int .i64 0, .int .i64 0] 67 (0, 0)) := ⟨_, rfl⟩
  obtain ⟨k1, k2, k3, kb, kz⟩ := three_allocs w _ _ _ _ _ _ w3 hw3
  have HC := Lib.hid (fun (W : World) (hW : Below w.heap.size w W) => refCheck_any tv s W (h.rd.below hW) hf)
  have HRD := Lib.hid h
  have HFL := Lib.hid hfl
  have HF := Lib.hid hf
  obtain ⟨R, hR⟩ : ∃ R, R = Ed.applyP s e := ⟨_, rfl⟩
  rw [← hR]
  have HR := Lib.hid hR
  obtain ⟨fx, fc, hfv, _⟩ := hfl.form
  obtain ⟨tx, tc, htv, _⟩ := h
  obtain ⟨fn, hfn⟩ : ∃ fn, fn = e.files.length := ⟨_, rfl⟩
  obtain ⟨tn, htn⟩ : ∃ tn, tn = s.l.length := ⟨_, rfl⟩
  rw [← hfn] at hfv
  rw [← htn] at htv
  have HTN := Lib.hid htn
  have HFN := Lib.hid hfn
  clear hR hfl hf htn hfn
  subst hfv htv
  have K1 := Lib.hid k1
  have K2 := Lib.hid k2
  have K3 := Lib.hid k3
  have KB := Lib.hid kb
  have KZ := Lib.hid kz
  have HW := Lib.hid hw3
  unfold stV edV at *
  obtain ⟨l, log, next⟩ := s
  obtain ⟨kind, at_, file, files, key⟩ := e
  simp only at *
  clear k1 k2 k3 kb kz hw3
  by_cases hv : Ed.Valid ⟨l, log, next⟩
  case neg =>
    have hB := Ed.validB_false hv
    rw [hB] at HC
    have HV := Lib.hid (HR.out.trans (apply_not fun h => hv h.1))
    clear hB hv
    go_enter Try.func43, Try.ntmps43
    go_wp2_with fail
    rw [← HW.out]
    refine (HC.out w3 KB.out).mono ?_
    rintro e w7 ⟨rfl, hb4⟩
    have N3 := Lib.hid (K3.out.below hb4)
    have HB7 := Lib.hid (KB.out.trans (hb4.mono KB.out.size))
    obtain ⟨r0, r1, r2, f0, f1, f2⟩ := blk3 N3.out
    clear hb4
    go_wp2_with fail
    obtain ⟨w9, hw9⟩ : ∃ w9, w9 = ((w7.setCell ⟨w.heap.size + 1 + 1, 0, none⟩ (.slice none 0 0)).setCell ⟨w.heap.size + 1 + 1, 1, none⟩ (.int .i64 0)).setCell ⟨w.heap.size + 1 + 1, 2, none⟩ (.int .i64 0) := ⟨_, rfl⟩
    rw [← hw9]
    obtain ⟨y1, y2⟩ := three_set N3.out w9 hw9
    obtain ⟨k0, k1, k2, _⟩ := blk3 y1
    have hB9 : Below w.heap.size w w9 := HB7.out.trans (y2.below HB7.out.size fun g hg e => by omega)
    clear hw9 y1
    refine bodyPost_ret (v := .tuple #[.agg #[.slice none 0 0, .int .i64 0, .int .i64 0], .bool false]) (by simp [results, Try.results43, go_sem, k0, k1, k2]) rfl ⟨hB9, ?_⟩
    rw [HV.out]
    exact rfl
  case pos =>
    have hB := Ed.validB_true hv
    rw [hB] at HC
    by_cases hfile : 0 ≤ file ∧ file < 2147483647
    case neg =>
      have HV := Lib.hid (HR.out.trans (apply_not fun h => hfile h.2))
      clear hB hv
      go_enter Try.func43, Try.ntmps43
      go_wp2_with fail
      rw [← HW.out]
      refine (HC.out w3 KB.out).mono ?_
      rintro e w7 ⟨rfl, hb4⟩
      have N3 := Lib.hid (K3.out.below hb4)
      have e2 := (K2.out.below hb4).cell 2
      simp at e2
      have HB7 := Lib.hid (KB.out.trans (hb4.mono KB.out.size))
      obtain ⟨r0, r1, r2, f0, f1, f2⟩ := blk3 N3.out
      clear hb4
      by_cases hneg : file < 0
      · have q := decide_eq_true hneg
        go_wp2_with fail
        obtain ⟨w9, hw9⟩ : ∃ w9, w9 = ((w7.setCell ⟨w.heap.size + 1 + 1, 0, none⟩ (.slice none 0 0)).setCell ⟨w.heap.size + 1 + 1, 1, none⟩ (.int .i64 0)).setCell ⟨w.heap.size + 1 + 1, 2, none⟩ (.int .i64 0) := ⟨_, rfl⟩
        rw [← hw9]
        obtain ⟨y1, y2⟩ := three_set N3.out w9 hw9
        obtain ⟨k0, k1, k2, _⟩ := blk3 y1
        have hB9 : Below w.heap.size w w9 := HB7.out.trans (y2.below HB7.out.size fun g hg e => by omega)
        clear hw9 y1
        refine bodyPost_ret (v := .tuple #[.agg #[.slice none 0 0, .int .i64 0, .int .i64 0], .bool false]) (by simp [results, Try.results43, go_sem, k0, k1, k2]) rfl ⟨hB9, ?_⟩
        rw [HV.out]
        exact rfl
      · have q := decide_eq_false hneg
        have q1 : decide (2147483647 ≤ file) = true := decide_eq_true (by omega)
        go_wp2_with fail
        obtain ⟨w9, hw9⟩ : ∃ w9, w9 = ((w7.setCell ⟨w.heap.size + 1 + 1, 0, none⟩ (.slice none 0 0)).setCell ⟨w.heap.size + 1 + 1, 1, none⟩ (.int .i64 0)).setCell ⟨w.heap.size + 1 + 1, 2, none⟩ (.int .i64 0) := ⟨_, rfl⟩
        rw [← hw9]
        obtain ⟨y1, y2⟩ := three_set N3.out w9 hw9
        obtain ⟨k0, k1, k2, _⟩ := blk3 y1
        have hB9 : Below w.heap.size w w9 := HB7.out.trans (y2.below HB7.out.size fun g hg e => by omega)
        clear hw9 y1
        refine bodyPost_ret (v := .tuple #[.agg #[.slice none 0 0, .int .i64 0, .int .i64 0], .bool false]) (by simp [results, Try.results43, go_sem, k0, k1, k2]) rfl ⟨hB9, ?_⟩
        rw [HV.out]
        exact rfl
    case pos =>
      have hRR : R = match Ed.doesR ⟨l, log, next⟩ ⟨kind, at_, file, files, key⟩ with | some s' => if Ed.validB s' = true then some s' else none | none => none := by
        rw [HR.out, Ed.applyR, if_pos ⟨hv, hfile⟩]
        cases Ed.doesR ⟨l, log, next⟩ ⟨kind, at_, file, files, key⟩ with
        | none => rfl
        | some s' =>
          simp only
          by_cases h : Ed.Valid s'
          · rw [if_pos h, if_pos ((Ed.validB_iff s').2 h)]
          · rw [if_neg h, if_neg (fun k => h ((Ed.validB_iff s').1 k))]
      have HRR := Lib.hid hRR
      have HVS := Lib.hid hv
      have q := decide_eq_false (p := file < 0) (by omega)
      have q1 := decide_eq_false (p := 2147483647 ≤ file) (by omega)
      clear hRR hB hv
      go_enter Try.func43, Try.ntmps43
      go_wp2_with fail
      rw [← HW.out]
      refine (HC.out w3 KB.out).mono ?_
      rintro e w4 ⟨rfl, hb4⟩
      have HB4 := Lib.hid (KB.out.trans (hb4.mono KB.out.size))
      have J1 := Lib.hid (K1.out.below hb4)
      have J2 := Lib.hid (K2.out.below hb4)
      have J3 := Lib.hid (K3.out.below hb4)
      obtain ⟨a0, a1, a2, _, _, _⟩ := blk3 J1.out
      obtain ⟨_, _, e2, _, _⟩ := blk5 J2.out
      clear hb4
      go_wp2_with fail
      have hrd4 := HRD.out.rd.below HB4.out
      refine (copied_any _ ⟨l, log, next⟩ w4 hrd4 (by have : l.length ≤ 16 := HVS.out.few; show l.length ≤ 1000; omega) (fun j hj => by have : l[j].tabs.length ≤ 128 := (HVS.out.each j hj).2.2.2; show l[j].tabs.length ≤ 100000; omega)).mono ?_
      rintro e w5 ⟨v5, raw, rfl, ho, hb5⟩
      obtain ⟨tb, cap, rfl, hcl, hcm, hot⟩ := ho.ownT HVS.out.some
      unfold stV
      simp only at hot hcl ⊢
      rw [← HTN.out] at hcl ⊢
      obtain ⟨w6, hw6⟩ : ∃ w6, w6 = w5.alloc (.cells #[.slice (some ⟨tb, 0, none⟩) tn cap, .int .i64 log, .int .i64 next] 67 (0, 0)) := ⟨_, rfl⟩
      obtain ⟨kq, kqb⟩ := three_cells' w6 hw6
      obtain ⟨sb, hsb⟩ : ∃ sb, sb = w5.heap.size := ⟨_, rfl⟩
      rw [← hsb] at kq
      have HOT := Lib.hid (hot.below kqb)
      have HSB := Lib.hid kq
      have HB6 := Lib.hid ((HB4.out.trans (hb5.mono HB4.out.size)).trans (kqb.mono (by have := HB4.out.size; have := hb5.size; omega)))
      have HB46 := Lib.hid (hb5.trans (kqb.mono hb5.size))
      have M1 := Lib.hid ((J1.out.below hb5).below kqb)
      have M2 := Lib.hid ((J2.out.below hb5).below kqb)
      have M3 := Lib.hid ((J3.out.below hb5).below kqb)
      have HOLD := Lib.hid (ho.lt.2)
      have hz4 : w.heap.size + 1 + 1 < w4.heap.size := J3.out.lt
      have hz5 := hb5.size
      have htb5 : tb < w5.heap.size := hot.row.lt
      have HSBE := Lib.hid hsb
      obtain ⟨b0, b1, b2, _⟩ := blk3 M1.out
      obtain ⟨e0, e1, e2, e3, e4⟩ := blk5 M2.out
      obtain ⟨s0, s1, s2, sf0, sf1, sf2⟩ := blk3 HSB.out
      have HFT0 := Lib.hid (valid_fits HVS.out)
      have HZ4 := Lib.hid hz4
      have HW6 := Lib.hid hw6
      rw [hw6] at b0 b1 b2 e0 e1 e2 e3 e4 s0 s1 s2 sf0 sf1 sf2
      clear ho hot hb5 kq kqb hrd4 a0 a1 a2 hw6 hsb
      by_cases hk5 : kind = 5
      · subst hk5
        have hD := doesR_log (s := ⟨l, log, next⟩) (e := ⟨5, at_, file, files, key⟩) rfl
        simp only at hD
        rw [hD] at HRR
        have hw2 : IntKind.i64.wrap (file + 1) = file + 1 := by rw [IntKind.wrap_i64]; omega
        clear hD
        go_wp2_with fail
        rw [← HW6.out] at e2 s0 s1 s2 sf0 sf1 sf2 ⊢
        rw [← HSBE.out]
        refine wp_region_two (T := fun W => W.cell? ⟨w.heap.size + 1, 2, none⟩ = some (.int .i64 file)) (S := fun _ => True) (n := 8) (by kernel_rfl) ?_
        obtain ⟨x0, hx0⟩ : ∃ x0, x0 = w6.drew := ⟨_, rfl⟩
        rw [← hx0]
        have hb0 : Below w6.heap.size w6 x0 := by rw [hx0]; exact (Below.refl _ _).drew
        have hp1 := M2.out.lt
        have hT : x0.cell? ⟨w.heap.size + 1, 2, none⟩ = some (.int .i64 file) := (hb0.cell (p := ⟨w.heap.size + 1, 2, none⟩) hp1).trans e2
        have hS : True := trivial
        have HS0 := Lib.hid (HSB.out.below hb0)
        have HB0 := Lib.hid hb0
        have hsp : sb ≠ w.heap.size + 1 := by have := HSBE.out; omega
        clear b0 b1 b2 e0 e1 e2 e3 e4 s0 s1 s2 sf0 sf1 sf2 hx0 hb0
        refine two_takeT 0 (some 32) (v := ?_) rfl rfl (by kernel_rfl) (by kernel_rfl) (by kernel_rfl) (by decide) (fun _ _ _ h => h) (Or.inl ⟨by rfl, ?hy0⟩) hT hS ?_
        case hy0 => (intro w' hT'; (try unfold T8 at hT'); (try unfold S8 at hT'); go_simp; (try with_reducible rfl))
        try simp only [Act.put, List.setIfInBounds_toArray, List.set_cons_zero, List.set_cons_succ]
        refine two_takeT 1 (some 33) (v := ?_) rfl rfl (by kernel_rfl) (by kernel_rfl) (by kernel_rfl) (by decide) (fun _ _ _ h => h) (Or.inl ⟨by rfl, ?hy1⟩) hT hS ?_
        case hy1 => (intro w' hT'; (try unfold T8 at hT'); (try unfold S8 at hT'); go_simp; (try with_reducible rfl))
        try simp only [Act.put, List.setIfInBounds_toArray, List.set_cons_zero, List.set_cons_succ]
        refine two_takeT 2 (some 34) (v := ?_) rfl rfl (by kernel_rfl) (by kernel_rfl) (by kernel_rfl) (by decide) (fun _ _ _ h => h) (Or.inl ⟨by rfl, ?hy2⟩) hT hS ?_
        case hy2 => (intro w' hT'; (try unfold T8 at hT'); (try unfold S8 at hT'); go_simp; (try with_reducible rfl))
        try simp only [Act.put, List.setIfInBounds_toArray, List.set_cons_zero, List.set_cons_succ]
        refine two_takeT 3 (some 35) (v := ?_) rfl rfl (by kernel_rfl) (by kernel_rfl) (by kernel_rfl) (by decide) (fun _ _ _ h => h) (Or.inl ⟨by rfl, ?hy3⟩) hT hS ?_
        case hy3 => (intro w' hT'; (try unfold T8 at hT'); (try unfold S8 at hT'); go_simp; (try with_reducible rfl))
        try simp only [Act.put, List.setIfInBounds_toArray, List.set_cons_zero, List.set_cons_succ]
        refine two_takeT 4 (some 36) (v := ?_) rfl rfl (by kernel_rfl) (by kernel_rfl) (by kernel_rfl) (by decide) (fun _ _ _ h => h) (Or.inl ⟨by rfl, ?hy4⟩) hT hS ?_
        case hy4 => (intro w' hT'; (try unfold T8 at hT'); (try unfold S8 at hT'); go_simp; (try with_reducible rfl))
        try simp only [Act.put, List.setIfInBounds_toArray, List.set_cons_zero, List.set_cons_succ]
        refine two_takeT 5 (some 37) (v := ?_) rfl rfl (by kernel_rfl) (by kernel_rfl) (by kernel_rfl) (by decide) (fun _ _ _ h => h) (Or.inl ⟨by rfl, ?hy5⟩) hT hS ?_
        case hy5 => (intro w' hT'; (try unfold T8 at hT'); (try unfold S8 at hT'); go_simp; (try with_reducible rfl))
        try simp only [Act.put, List.setIfInBounds_toArray, List.set_cons_zero, List.set_cons_succ]
        obtain ⟨s0, s1, s2, sf0, sf1, sf2⟩ := blk3 HS0.out
        refine two_one 6 rfl (by kernel_rfl) ?_
        intro K hK
        go_simp
        obtain ⟨x1, hx1⟩ : ∃ x1, x1 = x0.setCell ⟨sb, 1, none⟩ (.int .i64 file) := ⟨_, rfl⟩
        rw [← hx1]
        have hT1 : x1.cell? ⟨w.heap.size + 1, 2, none⟩ = some (.int .i64 file) := by rw [hx1]; exact (World.cell?_setCell_far _ _ _ _ hsp).trans hT
        have HS1 := Lib.hid (show Blk x1 sb 67 #[.slice (some ⟨tb, 0, none⟩) tn cap, .int .i64 file, .int .i64 next] by rw [hx1]; exact HS0.out.set 1 _)
        have HC1 := Lib.hid (show Chg (fun g => g = sb) x0 x1 by rw [hx1]; exact (Chg.refl _ _).setCell (S := fun g => g = sb) (fun _ => rfl) _)
        refine hK.out _ _ hT1 (fun _ _ => hS) ?_
        clear hK K hx1 s0 s1 s2 sf0 sf1 sf2 hT
        try simp only [Act.put, List.setIfInBounds_toArray, List.set_cons_zero, List.set_cons_succ]
        have hT := hT1
        refine two_takeT 7 (some 38) (v := ?_) rfl rfl (by kernel_rfl) (by kernel_rfl) (by kernel_rfl) (by decide) (fun _ _ _ h => h) (Or.inl ⟨by rfl, ?hy7⟩) hT hS ?_
        case hy7 => (intro w' hT'; (try unfold T8 at hT'); (try unfold S8 at hT'); go_simp; (try with_reducible rfl))
        try simp only [Act.put, List.setIfInBounds_toArray, List.set_cons_zero, List.set_cons_succ]
        obtain ⟨s0, s1, s2, sf0, sf1, sf2⟩ := blk3 HS1.out
        refine two_one 8 rfl (by kernel_rfl) ?_
        intro K hK
        go_simp
        obtain ⟨w7, hw7⟩ : ∃ w7, w7 = x1.setCell ⟨sb, 2, none⟩ (.int .i64 (file + 1)) := ⟨_, rfl⟩
        rw [← hw7]
        have hT2 : w7.cell? ⟨w.heap.size + 1, 2, none⟩ = some (.int .i64 file) := by rw [hw7]; exact (World.cell?_setCell_far _ _ _ _ hsp).trans hT
        have HX1 := Lib.hid (show Blk w7 sb 67 #[.slice (some ⟨tb, 0, none⟩) tn cap, .int .i64 file, .int .i64 (file + 1)] by rw [hw7]; exact HS1.out.set 2 _)
        have HC2 := Lib.hid (show Chg (fun g => g = sb) w6 w7 from (Chg.of_below HB0.out).trans (HC1.out.trans (by rw [hw7]; exact (Chg.refl _ _).setCell (S := fun g => g = sb) (fun _ => rfl) _)))
        refine hK.out _ _ hT2 (fun _ e => absurd rfl e) ?_
        refine two_done (by kernel_rfl) ?_ _
        clear hK K hw7 s0 s1 s2 sf0 sf1 sf2 hT hS hT1 hT2
        have HX0 := Lib.hid (show RdTCN w6 (fun g => g = sb ∨ g < w4.heap.size) (.slice (some ⟨tb, 0, none⟩) l.length cap) l from rdTCN_of_row HOT.out.row (fun e => by
          have := HOT.out.base; have := HSBE.out; rcases e with e | e <;> omega) HOT.out.len fun j hj hj' => by
          obtain ⟨g1, g2, g3⟩ := HOT.out.each j hj hj'
          refine ⟨g1, g2.rdn fun g hg e => ?_, g2.cap⟩
          have := HOLD.out j hj g hg
          have := HSBE.out
          rcases e with e | e <;> omega)
        have HX2' := Lib.hid ((HX0.out.chg HC2.out (fun g e => .inl e)).weak (N' := fun g => g < w4.heap.size) (fun g e => .inr e))
        have HB7 := Lib.hid (show Below w.heap.size w w7 from HB6.out.trans (HC2.out.below HB6.out.size (fun g hg e => by have := HSBE.out; omega)))
        have N3 := Lib.hid (M3.out.chg HC2.out (by have := HSBE.out; omega))
        obtain ⟨r0, r1, r2, f0, f1, f2⟩ := blk3 N3.out
        by_cases hle : next ≤ file
        · have hdle := decide_eq_true hle
          have HV := Lib.hid (show R = if Ed.validB ⟨l, file, file + 1⟩ = true then some ⟨l, file, file + 1⟩ else none by rw [HRR.out, if_pos hle])
          have HX2 := HX2'.out
          rw [← HTN.out] at HX2
          obtain ⟨tv', s', hx1, hx2, hft, hvv⟩ : ∃ (tv' : Value) (s' : Ed.St), Blk w7 sb 67 #[tv', .int .i64 s'.log, .int .i64 s'.next] ∧ RdTCN w7 (fun g => g < w4.heap.size) tv' s'.l ∧ Fits s'.l ∧ R = if Ed.validB s' = true then some s' else none :=
            ⟨_, ⟨l, file, file + 1⟩, HX1.out, HX2, HFT0.out, HV.out⟩
          clear HX2 HX1 HV HX2'
          have HX1 := Lib.hid hx1
          have HX2 := Lib.hid hx2
          have HFT := Lib.hid hft
          have HV := Lib.hid hvv
          clear hx1 hx2 hft hvv
          have hft : Fits s'.l := HFT.out
          have HCK := Lib.hid (refCheck_any tv' s' w7 HX2.out.rd.rd hft)
          obtain ⟨a0, a1, a2, _, _, _⟩ := blk3 HX1.out
          have hux := HX2.out
          obtain ⟨ux, uc, hux, _⟩ := hux
          obtain ⟨un, hun⟩ : ∃ un, un = s'.l.length := ⟨_, rfl⟩
          rw [← hun] at hux
          have HUN := Lib.hid hun
          subst hux
          unfold stV at HCK
          obtain ⟨l2, log2, next2⟩ := s'
          simp only at a0 a1 a2 HCK HX1 HX2 HUN HV
          clear hft hun
          cases hvb : Ed.validB ⟨l2, log2, next2⟩ with
          | false =>
            rw [hvb] at HCK HV
            have HV2 := Lib.hid (HV.out.trans (if_neg (by decide)))
            clear hvb HV
            go_wp2_with fail
            refine HCK.out.mono ?_
            rintro e w8 ⟨rfl, hb8⟩
            have P3 := Lib.hid (N3.out.below hb8)
            have HB8 := Lib.hid (HB7.out.trans (hb8.mono HB7.out.size))
            clear hb8 r0 r1 r2 f0 f1 f2
            obtain ⟨r0, r1, r2, f0, f1, f2⟩ := blk3 P3.out
            go_wp2_with fail
            obtain ⟨w9, hw9⟩ : ∃ w9, w9 = ((w8.setCell ⟨w.heap.size + 1 + 1, 0, none⟩ (.slice none 0 0)).setCell ⟨w.heap.size + 1 + 1, 1, none⟩ (.int .i64 0)).setCell ⟨w.heap.size + 1 + 1, 2, none⟩ (.int .i64 0) := ⟨_, rfl⟩
            rw [← hw9]
            obtain ⟨y1, y2⟩ := three_set P3.out w9 hw9
            obtain ⟨k0, k1, k2, _⟩ := blk3 y1
            have hB9 : Below w.heap.size w w9 := HB8.out.trans (y2.below HB8.out.size fun g hg e => by omega)
            clear hw9 y1
            refine bodyPost_ret (v := .tuple #[.agg #[.slice none 0 0, .int .i64 0, .int .i64 0], .bool false]) (by simp [results, Try.results43, go_sem, k0, k1, k2]) rfl ⟨hB9, ?_⟩
            rw [HV2.out]
            exact rfl
          | true =>
            rw [hvb] at HCK HV
            have HV2 := Lib.hid (HV.out.trans (if_pos rfl))
            clear hvb HV
            go_wp2_with fail
            refine HCK.out.mono ?_
            rintro e w8 ⟨rfl, hb8⟩
            have P1 := Lib.hid (HX1.out.below hb8)
            have P3 := Lib.hid (N3.out.below hb8)
            have P2 := Lib.hid (HX2.out.chg (S := fun _ => False) (Chg.of_below hb8) (fun _ h => h.elim))
            have HB8 := Lib.hid (HB7.out.trans (hb8.mono HB7.out.size))
            clear hb8 r0 r1 r2 f0 f1 f2 a0 a1 a2
            obtain ⟨r0, r1, r2, f0, f1, f2⟩ := blk3 P3.out
            obtain ⟨a0, a1, a2, _, _, _⟩ := blk3 P1.out
            go_wp2_with fail
            obtain ⟨w9, hw9⟩ : ∃ w9, w9 = ((w8.setCell ⟨w.heap.size + 1 + 1, 0, none⟩ (.slice ux un uc)).setCell ⟨w.heap.size + 1 + 1, 1, none⟩ (.int .i64 log2)).setCell ⟨w.heap.size + 1 + 1, 2, none⟩ (.int .i64 next2) := ⟨_, rfl⟩
            rw [← hw9]
            obtain ⟨y1, y2⟩ := three_set P3.out w9 hw9
            obtain ⟨k0, k1, k2, _⟩ := blk3 y1
            have hB9 : Below w.heap.size w w9 := HB8.out.trans (y2.below HB8.out.size fun g hg e => by omega)
            have hfin := (P2.out.chg y2 (fun g e => by have := HZ4.out; omega)).weak (N' := fun g => g < w.heap.size) (fun g e => by have := HZ4.out; omega)
            clear hw9 y1
            refine bodyPost_ret (v := .tuple #[.agg #[.slice ux un uc, .int .i64 log2, .int .i64 next2], .bool true]) (by simp [results, Try.results43, go_sem, k0, k1, k2]) rfl ⟨hB9, ?_⟩
            rw [HV2.out]
            exact ⟨_, rfl, hfin⟩
        · have hdle := decide_eq_false hle
          have HV := Lib.hid (show R = none by rw [HRR.out, if_neg hle])
          go_wp2_with fail
          obtain ⟨w9, hw9⟩ : ∃ w9, w9 = ((w7.setCell ⟨w.heap.size + 1 + 1, 0, none⟩ (.slice none 0 0)).setCell ⟨w.heap.size + 1 + 1, 1, none⟩ (.int .i64 0)).setCell ⟨w.heap.size + 1 + 1, 2, none⟩ (.int .i64 0) := ⟨_, rfl⟩
          rw [← hw9]
          obtain ⟨y1, y2⟩ := three_set N3.out w9 hw9
          obtain ⟨k0, k1, k2, _⟩ := blk3 y1
          have hB9 : Below w.heap.size w w9 := HB7.out.trans (y2.below HB7.out.size fun g hg e => by omega)
          clear hw9 y1
          refine bodyPost_ret (v := .tuple #[.agg #[.slice none 0 0, .int .i64 0, .int .i64 0], .bool false]) (by simp [results, Try.results43, go_sem, k0, k1, k2]) rfl ⟨hB9, ?_⟩
          rw [HV.out]
          exact rfl
      · have HK5 := Lib.hid hk5
        by_cases hr : 0 ≤ at_ ∧ at_ < tn
        · obtain ⟨i, hi⟩ : ∃ i : Nat, at_ = i := ⟨at_.toNat, by omega⟩
          have hir : i < tn := by omega
          have hr0 := hr.1
          have hr1 := hr.2
          have HP := Lib.hid (show RPre w6 w4.heap.size sb tb cap raw ⟨l, log, next⟩ (.slice tx tn tc) ⟨kind, at_, file, files, key⟩ (.slice fx fn fc) i from
            ⟨by show Blk w6 sb 67 #[.slice (some ⟨tb, 0, none⟩) l.length cap, .int .i64 log, .int .i64 next]; rw [← HTN.out]; exact HSB.out, HOT.out, by show l.length ≤ cap; rw [← HTN.out]; exact hcl, hcm, by have := HSBE.out; omega, by have := HSBE.out; omega, fun j hj e => by
              have := (HOLD.out j hj _ e).2
              have := HSBE.out
              omega, (HRD.out.base.chg (S := fun _ => False) (Chg.of_below HB6.out) (fun _ h => h.elim)).more (by omega), (HFL.out.base.chg (S := fun _ => False) (Chg.of_below HB6.out) (fun _ h => h.elim)).more (by omega), hff, hfile, hi, by show i < l.length; rw [← HTN.out]; exact hir, HVS.out, hkey⟩)
          have HTAB := Lib.hid (tablet_any HP.out hk5)
          clear hi hir hr
          unfold stV edV at HTAB
          simp only at HTAB
          go_wp2_with fail
          rw [← HW6.out, ← HSBE.out]
          refine HTAB.out.mono ?_
          rintro e w7 ⟨hb7, hres⟩
          have N3 := Lib.hid (show Blk w7 (w.heap.size + 1 + 1) 67 #[.slice none 0 0, .int .i64 0, .int .i64 0] by
            have h1 := M3.out
            unfold Blk at h1 ⊢
            rw [hb7.block _ hz4]; exact h1)
          have HRes := Lib.hid hres
          have HB7 := Lib.hid (HB6.out.trans (hb7.mono (by omega)))
          clear hres hb7 b0 b1 b2 e0 e1 e2 e3 e4 s0 s1 s2 sf0 sf1 sf2
          obtain ⟨r0, r1, r2, f0, f1, f2⟩ := blk3 N3.out
          cases hD : Ed.doesR ⟨l, log, next⟩ ⟨kind, at_, file, files, key⟩ with
          | none =>
            have hres := HRes.out
            rw [hD] at hres
            simp only at hres
            subst hres
            have HV := Lib.hid (show R = none by rw [HRR.out, hD])
            clear hD
            go_wp2_with fail
            obtain ⟨w9, hw9⟩ : ∃ w9, w9 = ((w7.setCell ⟨w.heap.size + 1 + 1, 0, none⟩ (.slice none 0 0)).setCell ⟨w.heap.size + 1 + 1, 1, none⟩ (.int .i64 0)).setCell ⟨w.heap.size + 1 + 1, 2, none⟩ (.int .i64 0) := ⟨_, rfl⟩
            rw [← hw9]
            obtain ⟨y1, y2⟩ := three_set N3.out w9 hw9
            obtain ⟨k0, k1, k2, _⟩ := blk3 y1
            have hB9 : Below w.heap.size w w9 := HB7.out.trans (y2.below HB7.out.size fun g hg e => by omega)
            clear hw9 y1
            refine bodyPost_ret (v := .tuple #[.agg #[.slice none 0 0, .int .i64 0, .int .i64 0], .bool false]) (by simp [results, Try.results43, go_sem, k0, k1, k2]) rfl ⟨hB9, ?_⟩
            rw [HV.out]
            exact rfl
          | some s' =>
            have hres := HRes.out
            rw [hD] at hres
            simp only at hres
            obtain ⟨rfl, tv', hx1, hx2⟩ := hres
            have HFT := Lib.hid (doesR_fits HVS.out hff hkey hD)
            have HX1 := Lib.hid hx1
            have HX2 := Lib.hid hx2
            have HV := Lib.hid (show R = if Ed.validB s' = true then some s' else none by rw [HRR.out, hD])
            clear hx1 hx2 hD
            have hft : Fits s'.l := HFT.out
            have HCK := Lib.hid (refCheck_any tv' s' w7 HX2.out.rd.rd hft)
            obtain ⟨a0, a1, a2, _, _, _⟩ := blk3 HX1.out
            have hux := HX2.out
            obtain ⟨ux, uc, hux, _⟩ := hux
            obtain ⟨un, hun⟩ : ∃ un, un = s'.l.length := ⟨_, rfl⟩
            rw [← hun] at hux
            have HUN := Lib.hid hun
            subst hux
            unfold stV at HCK
            obtain ⟨l2, log2, next2⟩ := s'
            simp only at a0 a1 a2 HCK HX1 HX2 HUN HV
            clear hft hun
            cases hvb : Ed.validB ⟨l2, log2, next2⟩ with
            | false =>
              rw [hvb] at HCK HV
              have HV2 := Lib.hid (HV.out.trans (if_neg (by decide)))
              clear hvb HV
              go_wp2_with fail
              refine HCK.out.mono ?_
              rintro e w8 ⟨rfl, hb8⟩
              have P3 := Lib.hid (N3.out.below hb8)
              have HB8 := Lib.hid (HB7.out.trans (hb8.mono HB7.out.size))
              clear hb8 r0 r1 r2 f0 f1 f2
              obtain ⟨r0, r1, r2, f0, f1, f2⟩ := blk3 P3.out
              go_wp2_with fail
              obtain ⟨w9, hw9⟩ : ∃ w9, w9 = ((w8.setCell ⟨w.heap.size + 1 + 1, 0, none⟩ (.slice none 0 0)).setCell ⟨w.heap.size + 1 + 1, 1, none⟩ (.int .i64 0)).setCell ⟨w.heap.size + 1 + 1, 2, none⟩ (.int .i64 0) := ⟨_, rfl⟩
              rw [← hw9]
              obtain ⟨y1, y2⟩ := three_set P3.out w9 hw9
              obtain ⟨k0, k1, k2, _⟩ := blk3 y1
              have hB9 : Below w.heap.size w w9 := HB8.out.trans (y2.below HB8.out.size fun g hg e => by omega)
              clear hw9 y1
              refine bodyPost_ret (v := .tuple #[.agg #[.slice none 0 0, .int .i64 0, .int .i64 0], .bool false]) (by simp [results, Try.results43, go_sem, k0, k1, k2]) rfl ⟨hB9, ?_⟩
              rw [HV2.out]
              exact rfl
            | true =>
              rw [hvb] at HCK HV
              have HV2 := Lib.hid (HV.out.trans (if_pos rfl))
              clear hvb HV
              go_wp2_with fail
              refine HCK.out.mono ?_
              rintro e w8 ⟨rfl, hb8⟩
              have P1 := Lib.hid (HX1.out.below hb8)
              have P3 := Lib.hid (N3.out.below hb8)
              have P2 := Lib.hid (HX2.out.chg (S := fun _ => False) (Chg.of_below hb8) (fun _ h => h.elim))
              have HB8 := Lib.hid (HB7.out.trans (hb8.mono HB7.out.size))
              clear hb8 r0 r1 r2 f0 f1 f2 a0 a1 a2
              obtain ⟨r0, r1, r2, f0, f1, f2⟩ := blk3 P3.out
              obtain ⟨a0, a1, a2, _, _, _⟩ := blk3 P1.out
              go_wp2_with fail
              obtain ⟨w9, hw9⟩ : ∃ w9, w9 = ((w8.setCell ⟨w.heap.size + 1 + 1, 0, none⟩ (.slice ux un uc)).setCell ⟨w.heap.size + 1 + 1, 1, none⟩ (.int .i64 log2)).setCell ⟨w.heap.size + 1 + 1, 2, none⟩ (.int .i64 next2) := ⟨_, rfl⟩
              rw [← hw9]
              obtain ⟨y1, y2⟩ := three_set P3.out w9 hw9
              obtain ⟨k0, k1, k2, _⟩ := blk3 y1
              have hB9 : Below w.heap.size w w9 := HB8.out.trans (y2.below HB8.out.size fun g hg e => by omega)
              have hfin := (P2.out.chg y2 (fun g e => by have := HZ4.out; omega)).weak (N' := fun g => g < w.heap.size) (fun g e => by have := HZ4.out; omega)
              clear hw9 y1
              refine bodyPost_ret (v := .tuple #[.agg #[.slice ux un uc, .int .i64 log2, .int .i64 next2], .bool true]) (by simp [results, Try.results43, go_sem, k0, k1, k2]) rfl ⟨hB9, ?_⟩
              rw [HV2.out]
              exact ⟨_, rfl, hfin⟩
        · have HV := Lib.hid (show R = none by rw [HRR.out, doesR_out hk5 (by show ¬ (0 ≤ at_ ∧ at_ < (l.length : Int)); rw [← HTN.out]; exact hr)])
          obtain ⟨r0, r1, r2, f0, f1, f2⟩ := blk3 M3.out
          rw [HW6.out] at r0 r1 r2 f0 f1 f2
          by_cases hneg : 0 ≤ at_
          · have hge : tn ≤ at_ := by omega
            go_wp2_with fail
            rw [← HW6.out]
            obtain ⟨w9, hw9⟩ : ∃ w9, w9 = ((w6.setCell ⟨w.heap.size + 1 + 1, 0, none⟩ (.slice none 0 0)).setCell ⟨w.heap.size + 1 + 1, 1, none⟩ (.int .i64 0)).setCell ⟨w.heap.size + 1 + 1, 2, none⟩ (.int .i64 0) := ⟨_, rfl⟩
            rw [← hw9]
            obtain ⟨y1, y2⟩ := three_set M3.out w9 hw9
            obtain ⟨k0, k1, k2, _⟩ := blk3 y1
            have hB9 : Below w.heap.size w w9 := HB6.out.trans (y2.below HB6.out.size fun g hg e => by omega)
            clear hw9 y1
            refine bodyPost_ret (v := .tuple #[.agg #[.slice none 0 0, .int .i64 0, .int .i64 0], .bool false]) (by simp [results, Try.results43, go_sem, k0, k1, k2]) rfl ⟨hB9, ?_⟩
            rw [HV.out]
            exact rfl
          · skip
            go_wp2_with fail
            rw [← HW6.out]
            obtain ⟨w9, hw9⟩ : ∃ w9, w9 = ((w6.setCell ⟨w.heap.size + 1 + 1, 0, none⟩ (.slice none 0 0)).setCell ⟨w.heap.size + 1 + 1, 1, none⟩ (.int .i64 0)).setCell ⟨w.heap.size + 1 + 1, 2, none⟩ (.int .i64 0) := ⟨_, rfl⟩
            rw [← hw9]
            obtain ⟨y1, y2⟩ := three_set M3.out w9 hw9
            obtain ⟨k0, k1, k2, _⟩ := blk3 y1
            have hB9 : Below w.heap.size w w9 := HB6.out.trans (y2.below HB6.out.size fun g hg e => by omega)
            clear hw9 y1
            refine bodyPost_ret (v := .tuple #[.agg #[.slice none 0 0, .int .i64 0, .int .i64 0], .bool false]) (by simp [results, Try.results43, go_sem, k0, k1, k2]) rfl ⟨hB9, ?_⟩
            rw [HV.out]
            exact rfl
end Go.Proofs.Ytenbgfejonokdaa

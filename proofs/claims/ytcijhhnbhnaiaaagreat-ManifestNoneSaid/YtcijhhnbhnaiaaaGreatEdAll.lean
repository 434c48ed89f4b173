/- The state behind edits, one behind the other, walked; the first state. -/
import Derived.Test.YtcijhhnbhnaiaaaGreatEdApply
namespace Go.Proofs.YtcijhhnbhnaiaaaGreat
set_option linter.unusedSimpArgs false
set_option linter.unusedVariables false
set_option maxRecDepth 100000
open Go.RowKit
attribute [local go_sem ↓] Go.wp_at_zero Go.wp_at_succ

/-- An edit that can be read. -/
structure EdOk (e : Ed.Edit) : Prop where
  files : e.files.length ≤ 1000
  key : e.key.size ≤ maxLen
  at_ : -9223372036854775808 ≤ e.at_ ∧ e.at_ ≤ 9223372036854775807
/-- A slice that reads as these edits. -/
def RdE (w : World) (v : Value) (l : List Ed.Edit) : Prop :=
  ∃ x c, v = .slice x l.length c ∧ ∀ (j : Nat) (hj : j < l.length), ∃ b off fv, x = some ⟨b, off, none⟩ ∧ b < w.heap.size ∧ w.cell? ⟨b, off + j * 5, none⟩ = some (.int .i64 l[j].kind) ∧ w.cell? ⟨b, off + j * 5 + 1, none⟩ = some (.int .i64 l[j].at_) ∧
    w.cell? ⟨b, off + j * 5 + 2, none⟩ = some (.int .i64 l[j].file) ∧ w.cell? ⟨b, off + j * 5 + 3, none⟩ = some fv ∧ w.cell? ⟨b, off + j * 5 + 4, none⟩ = some (.string l[j].key) ∧ RdI w fv l[j].files
theorem RdE.below {w w' : World} {v : Value} {l : List Ed.Edit} (h : RdE w v l) (x : Below w.heap.size w w') : RdE w' v l := by
  obtain ⟨y, c, e, h⟩ := h
  refine ⟨y, c, e, fun j hj => ?_⟩
  obtain ⟨b, off, fv, h1, hb, c0, c1, c2, c3, c4, h2⟩ := h j hj
  exact ⟨b, off, fv, h1, Nat.lt_of_lt_of_le hb x.size, (x.cell (p := ⟨b, _, none⟩) hb).trans c0, (x.cell (p := ⟨b, _, none⟩) hb).trans c1, (x.cell (p := ⟨b, _, none⟩) hb).trans c2, (x.cell (p := ⟨b, _, none⟩) hb).trans c3, (x.cell (p := ⟨b, _, none⟩) hb).trans c4, h2.below x⟩
theorem allP_append (a b : List Ed.Edit) : ∀ s, Ed.allP s (a ++ b) = match Ed.allP s a with | some s' => Ed.allP s' b | none => none := by
  induction a with
  | nil => intro s; rfl
  | cons e a ih =>
    intro s
    show (match Ed.applyP s e with | some s' => Ed.allP s' (a ++ b) | none => none) = match (match Ed.applyP s e with | some s' => Ed.allP s' a | none => none) with | some s' => Ed.allP s' b | none => none
    cases Ed.applyP s e with
    | none => rfl
    | some s' => exact ih s'
theorem allP_step (l : List Ed.Edit) (k : Nat) (hk : k < l.length) (s : Ed.St) : Ed.allP s (l.take (k + 1)) = match Ed.allP s (l.take k) with | some s' => Ed.applyP s' l[k] | none => none := by
  rw [List.take_succ_eq_append_getElem hk, allP_append]
  cases Ed.allP s (l.take k) with
  | none => rfl
  | some s' =>
    show (match Ed.applyP s' l[k] with | some s'' => Ed.allP s'' [] | none => none) = Ed.applyP s' l[k]
    cases Ed.applyP s' l[k] <;> rfl
theorem allP_none (l : List Ed.Edit) (k : Nat) {s : Ed.St} (h : Ed.allP s (l.take k) = none) : Ed.allP s l = none := by
  rw [← List.take_append_drop k l, allP_append, h]
theorem applyP_valid {s s' : Ed.St} {e : Ed.Edit} (h : Ed.applyP s e = some s') : Ed.Valid s' := by
  unfold Ed.applyP at h
  split at h
  · split at h
    · split at h
      · rename_i h2; injection h with h; subst h; exact h2
      · cases h
    · cases h
  · cases h
theorem allP_valid : ∀ (l : List Ed.Edit) {s s' : Ed.St}, Ed.Valid s → Ed.allP s l = some s' → Ed.Valid s'
  | [], _, _, hv, h => by injection h with h; subst h; exact hv
  | e :: l, s, s', hv, h => by
    unfold Ed.allP at h
    split at h
    · rename_i s1 h1; exact allP_valid l (applyP_valid h1) h
    · cases h
open Classical in
noncomputable def allQ (s : Ed.St) (l : List Ed.Edit) : Option Ed.St := if Ed.Valid s then Ed.allP s l else none
set_option maxHeartbeats 4000000 in
theorem all_any (tv : Value) (s : Ed.St) (lv : Value) (l : List Ed.Edit) (w : World) (h : RdT w tv s.l) (hf : Fits s.l) (hl : RdE w lv l) (hll : l.length ≤ 1000) (hok : ∀ (j : Nat) (hj : j < l.length), EdOk l[j]) :
    Calls Tryz.prog 15 #[stV tv s.log s.next, lv] w (AppPost w (allQ s l)) := by
  obtain ⟨w2, hw2⟩ : ∃ w2, w2 = (w.alloc (.cells #[tv, .int .i64 s.log, .int .i64 s.next] 28 (0, 0))).alloc (.cells #[.slice none 0 0, .int .i64 0, .int .i64 0] 28 (0, 0)) := ⟨_, rfl⟩
  have hk : Blk w2 w.heap.size 28 #[tv, .int .i64 s.log, .int .i64 s.next] ∧ Blk w2 (w.heap.size + 1) 28 #[.slice none 0 0, .int .i64 0, .int .i64 0] ∧ Below w.heap.size w w2 := by
    obtain ⟨w1, h1⟩ : ∃ w1, w1 = w.alloc (.cells #[tv, .int .i64 s.log, .int .i64 s.next] 28 (0, 0)) := ⟨_, rfl⟩
    have z1 : w1.heap.size = w.heap.size + 1 := by rw [h1]; simp
    have b1 : Blk w1 w.heap.size 28 #[tv, .int .i64 s.log, .int .i64 s.next] := by rw [h1]; exact Blk.alloc_new w _ _
    have l1 : Below w.heap.size w w1 := by rw [h1]; exact (Below.refl _ _).alloc (Nat.le_refl _) _
    rw [← h1] at hw2
    have l2 : Below w1.heap.size w1 w2 := by rw [hw2]; exact (Below.refl _ _).alloc (Nat.le_refl _) _
    exact ⟨b1.below l2, by rw [hw2, ← z1]; exact Blk.alloc_new w1 _ _, l1.trans (l2.mono (by omega))⟩
  obtain ⟨k1, k2, kb⟩ := hk
  have HC := Lib.hid (check_any tv s w2 (h.below kb) hf)
  have HRD := Lib.hid (h.below kb)
  obtain ⟨R, hR⟩ : ∃ R, R = allQ s l := ⟨_, rfl⟩
  rw [← hR]
  have HR := Lib.hid hR
  obtain ⟨tx, tc, htv, _⟩ := h
  obtain ⟨tn, htn⟩ : ∃ tn, tn = s.l.length := ⟨_, rfl⟩
  rw [← htn] at htv
  have HTN := Lib.hid htn
  obtain ⟨lx, lc, hlv, hle⟩ := hl
  have HLE := Lib.hid hle
  have HOK := Lib.hid hok
  clear hR hf htn hle hok
  subst htv hlv
  have K1 := Lib.hid k1
  have K2 := Lib.hid k2
  have KB := Lib.hid kb
  have HW := Lib.hid hw2
  unfold stV at *
  obtain ⟨sl, log, next⟩ := s
  simp only at *
  clear k1 k2 kb hw2
  obtain ⟨a0, a1, a2, _, _, _⟩ := blk3 K1.out
  rw [HW.out] at a0 a1 a2
  obtain ⟨vb, hvb⟩ : ∃ vb, vb = Ed.validB ⟨sl, log, next⟩ := ⟨_, rfl⟩
  rw [← hvb] at HC
  have HVB := Lib.hid hvb
  clear hvb
  go_enter Tryz.func15, Tryz.ntmps15
  go_wp2_with fail
  rw [← HW.out]
  refine HC.out.mono ?_
  rintro e w4 ⟨rfl, hb4⟩
  have J1 := Lib.hid (K1.out.below hb4)
  have J2 := Lib.hid (K2.out.below hb4)
  have HB4 := Lib.hid (KB.out.trans (hb4.mono KB.out.size))
  have HR4 := Lib.hid (HRD.out.below hb4)
  clear hb4 a0 a1 a2
  go_wp2_with fail
  go_loopw [6, 7, 19] (fun v6 v7 _ wr => ∃ (k : Nat) (ok : Bool), v6 = .bool ok ∧ v7 = .int .i64 k ∧ k ≤ l.length ∧ Below w.heap.size w wr ∧ Blk wr (w.heap.size + 1) 28 #[.slice none 0 0, .int .i64 0, .int .i64 0] ∧
      ((ok = true ∧ ∃ (s' : Ed.St) (tv' : Value), Ed.Valid ⟨sl, log, next⟩ ∧ Ed.allP ⟨sl, log, next⟩ (l.take k) = some s' ∧ Blk wr w.heap.size 28 #[tv', .int .i64 s'.log, .int .i64 s'.next] ∧ RdT wr tv' s'.l) ∨ (ok = false ∧ R = none ∧ ∃ x y z, Blk wr w.heap.size 28 #[x, y, z]))) (fun v6 v7 _ _ => (l.length + 1 - (intOf v7).toNat) * 2)
  case atStart =>
    refine ⟨0, vb, rfl, rfl, Nat.zero_le _, HB4.out, J2.out, ?_⟩
    cases hvv : vb with
    | true =>
      rw [hvv] at HVB
      have hv := (Ed.validB_iff _).1 HVB.out.symm
      exact .inl ⟨rfl, ⟨sl, log, next⟩, _, hv, rfl, J1.out, HR4.out⟩
    | false =>
      rw [hvv] at HVB
      exact .inr ⟨rfl, by rw [HR.out]; unfold allQ; rw [if_neg (fun k => by have := HVB.out; rw [Ed.validB_true k] at this; cases this)], _, _, _, J1.out⟩
  case round =>
    obtain ⟨k, ok, rfl, rfl, hk, hbe, hb2, hcase⟩ := hrel
    have Hbe := Lib.hid hbe
    have Hb2 := Lib.hid hb2
    obtain ⟨r0, r1, r2, f0, f1, f2⟩ := blk3 hb2
    clear hbe hb2
    rcases hcase with ⟨rfl, s', tv', hv0, hall, hblk, hrd⟩ | ⟨rfl, hRn, x, y, z, hblk⟩
    · have Hall := Lib.hid hall
      have Hv0 := Lib.hid hv0
      have Hblk := Lib.hid hblk
      have Hrd := Lib.hid hrd
      have Hv' := Lib.hid (allP_valid _ hv0 hall)
      obtain ⟨ux, uc, hux, _⟩ := hrd
      obtain ⟨un, hun⟩ : ∃ un, un = s'.l.length := ⟨_, rfl⟩
      rw [← hun] at hux
      have HUN := Lib.hid hun
      subst hux
      obtain ⟨l2, log2, next2⟩ := s'
      simp only at Hblk Hrd HUN
      obtain ⟨a0, a1, a2, g0, g1, g2⟩ := blk3 Hblk.out
      clear hall hv0 hblk hun
      by_cases hlt : k < l.length
      · obtain ⟨eb, eoff, fv, rfl, heb, c0, c1, c2, c3, c4, hfl⟩ := HLE.out k hlt
        have hok := HOK.out k hlt
        obtain ⟨e, he⟩ : ∃ e, e = l[k] := ⟨_, rfl⟩
        rw [← he] at c0 c1 c2 c4 hfl hok
        have HE := Lib.hid he
        obtain ⟨fx, fc, hfv, _⟩ := hfl.form
        obtain ⟨fn, hfn⟩ : ∃ fn, fn = e.files.length := ⟨_, rfl⟩
        rw [← hfn] at hfv
        have HFN := Lib.hid hfn
        subst hfv
        have HFL := Lib.hid hfl
        have HEO := Lib.hid hok
        obtain ⟨kind, at_, file, files, key⟩ := e
        simp only at c0 c1 c2 c3 c4 HFL HEO HFN
        have hsz := Hbe.out.size
        have d0 := (Hbe.out.cell (p := ⟨eb, eoff + k * 5, none⟩) heb).trans c0
        have d1 := (Hbe.out.cell (p := ⟨eb, eoff + k * 5 + 1, none⟩) heb).trans c1
        have d2 := (Hbe.out.cell (p := ⟨eb, eoff + k * 5 + 2, none⟩) heb).trans c2
        have d3 := (Hbe.out.cell (p := ⟨eb, eoff + k * 5 + 3, none⟩) heb).trans c3
        have d4 := (Hbe.out.cell (p := ⟨eb, eoff + k * 5 + 4, none⟩) heb).trans c4
        have HLT := Lib.hid hlt
        have hk0 : (0 : Int) ≤ k := by omega
        have hkl : (k : Int) < l.length := by omega
        clear c0 c1 c2 c3 c4 he hfn hfl hok
        go_wp2_with fail
        refine wp_region_two (T := fun _ => True) (S := fun W => (W.cell? ⟨w.heap.size, 0, none⟩ = some (.slice ux un uc) ∧ W.cell? ⟨w.heap.size, 1, none⟩ = some (.int .i64 log2) ∧ W.cell? ⟨w.heap.size, 2, none⟩ = some (.int .i64 next2)) ∧ W.cell? ⟨eb, eoff + k * 5, none⟩ = some (.int .i64 kind) ∧ W.cell? ⟨eb, eoff + k * 5 + 1, none⟩ = some (.int .i64 at_) ∧ W.cell? ⟨eb, eoff + k * 5 + 2, none⟩ = some (.int .i64 file) ∧ W.cell? ⟨eb, eoff + k * 5 + 3, none⟩ = some (.slice fx fn fc) ∧ W.cell? ⟨eb, eoff + k * 5 + 4, none⟩ = some (.string key)) (n := 9) (by kernel_rfl) ?_
        obtain ⟨w5, hw5⟩ : ∃ w5, w5 = wr.drew := ⟨_, rfl⟩
        rw [← hw5]
        have hb5 : Below wr.heap.size wr w5 := by rw [hw5]; exact (Below.refl _ _).drew
        have HB5 := Lib.hid (Hbe.out.trans (hb5.mono hsz))
        have HK5 := Lib.hid (Hblk.out.below hb5)
        have HZ5 := Lib.hid (Hb2.out.below hb5)
        have HR5 := Lib.hid (Hrd.out.below hb5)
        have hT : True := trivial
        have hS : (w5.cell? ⟨w.heap.size, 0, none⟩ = some (.slice ux un uc) ∧ w5.cell? ⟨w.heap.size, 1, none⟩ = some (.int .i64 log2) ∧ w5.cell? ⟨w.heap.size, 2, none⟩ = some (.int .i64 next2)) ∧ w5.cell? ⟨eb, eoff + k * 5, none⟩ = some (.int .i64 kind) ∧ w5.cell? ⟨eb, eoff + k * 5 + 1, none⟩ = some (.int .i64 at_) ∧ w5.cell? ⟨eb, eoff + k * 5 + 2, none⟩ = some (.int .i64 file) ∧ w5.cell? ⟨eb, eoff + k * 5 + 3, none⟩ = some (.slice fx fn fc) ∧ w5.cell? ⟨eb, eoff + k * 5 + 4, none⟩ = some (.string key) := by
          rw [hw5]; exact ⟨⟨a0, a1, a2⟩, d0, d1, d2, d3, d4⟩
        have hlb : w.heap.size < w5.heap.size := HK5.out.lt
        have hle : eb < w5.heap.size := by have := HB5.out.size; omega
        have HAP := Lib.hid (apply_any (.slice ux un uc) ⟨l2, log2, next2⟩ ⟨kind, at_, file, files, key⟩ (.slice fx fn fc) w5 HR5.out (valid_fits Hv'.out) (HFL.out.below HB5.out) HEO.out.files HEO.out.key HEO.out.at_)
        obtain ⟨RA, hRA⟩ : ∃ RA, RA = Ed.applyP ⟨l2, log2, next2⟩ ⟨kind, at_, file, files, key⟩ := ⟨_, rfl⟩
        rw [← hRA] at HAP
        have HRA := Lib.hid hRA
        unfold edV stV at HAP
        simp only at HAP
        clear hw5 hb5 hRA a0 a1 a2 g0 g1 g2 r0 r1 r2 f0 f1 f2 d0 d1 d2 d3 d4
        refine two_take 0 (some 20) (v := ?_) rfl rfl (by kernel_rfl) (by kernel_rfl) (by kernel_rfl) (by kernel_rfl) (by decide) (by kernel_rfl) (fun _ _ _ h => h) (Or.inl ⟨by rfl, ?hy0⟩) hT hS ?_
        case hy0 => (intro w' hS'; (try unfold S8 at hS'); go_simp; (try with_reducible rfl))
        try simp only [Act.put, List.setIfInBounds_toArray, List.set_cons_zero, List.set_cons_succ]
        refine two_takeT 1 (some 21) (v := ?_) rfl rfl (by kernel_rfl) (by kernel_rfl) (by kernel_rfl) (by decide) (fun _ _ _ h => h) (Or.inl ⟨by rfl, ?hy1⟩) hT hS ?_
        case hy1 => (intro w' hT'; go_simp; (try with_reducible rfl))
        try simp only [Act.put, List.setIfInBounds_toArray, List.set_cons_zero, List.set_cons_succ]
        refine two_takeT 2 (some 22) (v := ?_) rfl rfl (by kernel_rfl) (by kernel_rfl) (by kernel_rfl) (by decide) (fun _ _ _ h => h) (Or.inl ⟨by rfl, ?hy2⟩) hT hS ?_
        case hy2 => (intro w' hT'; go_simp; (try with_reducible rfl))
        try simp only [Act.put, List.setIfInBounds_toArray, List.set_cons_zero, List.set_cons_succ]
        refine two_takeT 3 (some 23) (v := ?_) rfl rfl (by kernel_rfl) (by kernel_rfl) (by kernel_rfl) (by decide) (fun _ _ _ h => h) (Or.inl ⟨by rfl, ?hy3⟩) hT hS ?_
        case hy3 => (intro w' hT'; go_simp; (try with_reducible rfl))
        try simp only [Act.put, List.setIfInBounds_toArray, List.set_cons_zero, List.set_cons_succ]
        refine two_take 4 (some 24) (v := ?_) rfl rfl (by kernel_rfl) (by kernel_rfl) (by kernel_rfl) (by kernel_rfl) (by decide) (by kernel_rfl) (fun _ _ _ h => h) (Or.inl ⟨by rfl, ?hy4⟩) hT hS ?_
        case hy4 => (intro w' hS'; (try unfold S8 at hS'); go_simp; (try with_reducible rfl))
        try simp only [Act.put, List.setIfInBounds_toArray, List.set_cons_zero, List.set_cons_succ]
        refine two_one 5 rfl (by kernel_rfl) ?_
        intro K hK
        go_simp
        refine HAP.out.mono ?_
        rintro e w6 ⟨hb6, hres⟩
        have HRes := Lib.hid hres
        have HK6 := Lib.hid (HK5.out.below hb6)
        have HZ6 := Lib.hid (HZ5.out.below hb6)
        have HB6 := Lib.hid (HB5.out.trans (hb6.mono HB5.out.size))
        have hS6 : (w6.cell? ⟨w.heap.size, 0, none⟩ = some (.slice ux un uc) ∧ w6.cell? ⟨w.heap.size, 1, none⟩ = some (.int .i64 log2) ∧ w6.cell? ⟨w.heap.size, 2, none⟩ = some (.int .i64 next2)) ∧ w6.cell? ⟨eb, eoff + k * 5, none⟩ = some (.int .i64 kind) ∧ w6.cell? ⟨eb, eoff + k * 5 + 1, none⟩ = some (.int .i64 at_) ∧ w6.cell? ⟨eb, eoff + k * 5 + 2, none⟩ = some (.int .i64 file) ∧ w6.cell? ⟨eb, eoff + k * 5 + 3, none⟩ = some (.slice fx fn fc) ∧ w6.cell? ⟨eb, eoff + k * 5 + 4, none⟩ = some (.string key) :=
          ⟨⟨(hb6.cell (p := ⟨w.heap.size, 0, none⟩) hlb).trans hS.1.1, (hb6.cell (p := ⟨w.heap.size, 1, none⟩) hlb).trans hS.1.2.1, (hb6.cell (p := ⟨w.heap.size, 2, none⟩) hlb).trans hS.1.2.2⟩, (hb6.cell (p := ⟨eb, eoff + k * 5, none⟩) hle).trans hS.2.1, (hb6.cell (p := ⟨eb, eoff + k * 5 + 1, none⟩) hle).trans hS.2.2.1, (hb6.cell (p := ⟨eb, eoff + k * 5 + 2, none⟩) hle).trans hS.2.2.2.1, (hb6.cell (p := ⟨eb, eoff + k * 5 + 3, none⟩) hle).trans hS.2.2.2.2.1, (hb6.cell (p := ⟨eb, eoff + k * 5 + 4, none⟩) hle).trans hS.2.2.2.2.2⟩
        have hstep := allP_step l k HLT.out ⟨sl, log, next⟩
        rw [Hall.out, ← HE.out] at hstep
        simp only at hstep
        rw [← HRA.out] at hstep
        have Hstep := Lib.hid hstep
        have Hb6 := Lib.hid hb6
        clear hS hres hb6 hstep HAP
        cases hRc : RA with
        | none =>
          have hres := HRes.out
          have hstep := Hstep.out
          rw [hRc] at hres hstep
          simp only at hres
          unfold stV at hres
          subst hres
          have HRn := Lib.hid (show R = none by
            rw [HR.out]; unfold allQ; rw [if_pos Hv0.out]
            exact allP_none l (k + 1) hstep)
          clear hstep hRc
          refine hK.out _ _ trivial (fun _ _ => hS6) ?_
          clear hK K
          try simp only [Act.put, List.setIfInBounds_toArray, List.set_cons_zero, List.set_cons_succ]
          refine two_one 6 rfl (by kernel_rfl) ?_
          intro K hK
          go_simp
          refine hK.out _ _ trivial (fun _ _ => hS6) ?_
          clear hK K
          try simp only [Act.put, List.setIfInBounds_toArray, List.set_cons_zero, List.set_cons_succ]
          have hS := hS6
          refine two_takeT 7 (some 26) (v := ?_) rfl rfl (by kernel_rfl) (by kernel_rfl) (by kernel_rfl) (by decide) (fun _ _ _ h => h) (Or.inl ⟨by rfl, ?hy7⟩) hT hS ?_
          case hy7 => (intro w' hT'; go_simp; (try with_reducible rfl))
          try simp only [Act.put, List.setIfInBounds_toArray, List.set_cons_zero, List.set_cons_succ]
          refine two_takeT 8 (some 27) (v := ?_) rfl rfl (by kernel_rfl) (by kernel_rfl) (by kernel_rfl) (by decide) (fun _ _ _ h => h) (Or.inl ⟨by rfl, ?hy8⟩) hT hS ?_
          case hy8 => (intro w' hT'; go_simp; (try with_reducible rfl))
          try simp only [Act.put, List.setIfInBounds_toArray, List.set_cons_zero, List.set_cons_succ]
          clear hS
          obtain ⟨_, _, _, g0, g1, g2⟩ := blk3 HK6.out
          refine two_one 9 rfl (by kernel_rfl) ?_
          intro K hK
          go_simp
          obtain ⟨w7, hw7⟩ : ∃ w7, w7 = ((w6.setCell ⟨w.heap.size, 0, none⟩ (.slice none 0 0)).setCell ⟨w.heap.size, 1, none⟩ (.int .i64 0)).setCell ⟨w.heap.size, 2, none⟩ (.int .i64 0) := ⟨_, rfl⟩
          rw [← hw7]
          obtain ⟨z1, z2⟩ := three_set HK6.out w7 hw7
          have HZ7 := Lib.hid (HZ6.out.chg z2 (by omega))
          have HK7 := Lib.hid z1
          have HB7 := Lib.hid (HB6.out.trans (z2.below HB6.out.size fun g hg e => by omega))
          refine hK.out _ _ trivial (fun _ e => absurd rfl e) ?_
          clear hK K hw7 z1 z2 hS6 g0 g1 g2
          try simp only [Act.put, List.setIfInBounds_toArray, List.set_cons_zero, List.set_cons_succ]
          refine two_one 10 rfl (by kernel_rfl) ?_
          intro K hK
          go_simp
          refine hK.out _ _ trivial (fun e _ => two_past e (by kernel_rfl)) ?_
          clear hK K
          refine two_done (by kernel_rfl) ?_ _
          go_wp2_with fail
          go_roundw
          case rel => exact ⟨k + 1, false, rfl, by go_num, by have := HLT.out; omega, HB7.out, HZ7.out, .inr ⟨rfl, HRn.out, _, _, _, HK7.out⟩⟩
          case measure => simp [intOf]; omega
        | some s2 =>
          have hres := HRes.out
          have hstep := Hstep.out
          rw [hRc] at hres hstep
          simp only at hres
          obtain ⟨tv2, rfl, hrd2⟩ := hres
          obtain ⟨vx, vc, hvx, _⟩ := hrd2.rd
          obtain ⟨vn, hvn⟩ : ∃ vn, vn = s2.l.length := ⟨_, rfl⟩
          rw [← hvn] at hvx
          subst hvx
          have HVN := Lib.hid hvn
          have HRD2 := Lib.hid hrd2
          have HST := Lib.hid hstep
          obtain ⟨l3, log3, next3⟩ := s2
          simp only at HRD2 HVN
          unfold stV
          simp only
          clear hstep hRc hvn
          refine hK.out _ _ trivial (fun _ _ => hS6) ?_
          clear hK K
          try simp only [Act.put, List.setIfInBounds_toArray, List.set_cons_zero, List.set_cons_succ]
          refine two_one 6 rfl (by kernel_rfl) ?_
          intro K hK
          go_simp
          refine hK.out _ _ trivial (fun _ _ => hS6) ?_
          clear hK K
          try simp only [Act.put, List.setIfInBounds_toArray, List.set_cons_zero, List.set_cons_succ]
          have hS := hS6
          refine two_takeT 7 (some 26) (v := ?_) rfl rfl (by kernel_rfl) (by kernel_rfl) (by kernel_rfl) (by decide) (fun _ _ _ h => h) (Or.inl ⟨by rfl, ?hy7⟩) hT hS ?_
          case hy7 => (intro w' hT'; go_simp; (try with_reducible rfl))
          try simp only [Act.put, List.setIfInBounds_toArray, List.set_cons_zero, List.set_cons_succ]
          refine two_takeT 8 (some 27) (v := ?_) rfl rfl (by kernel_rfl) (by kernel_rfl) (by kernel_rfl) (by decide) (fun _ _ _ h => h) (Or.inl ⟨by rfl, ?hy8⟩) hT hS ?_
          case hy8 => (intro w' hT'; go_simp; (try with_reducible rfl))
          try simp only [Act.put, List.setIfInBounds_toArray, List.set_cons_zero, List.set_cons_succ]
          clear hS
          obtain ⟨_, _, _, g0, g1, g2⟩ := blk3 HK6.out
          refine two_one 9 rfl (by kernel_rfl) ?_
          intro K hK
          go_simp
          obtain ⟨w7, hw7⟩ : ∃ w7, w7 = ((w6.setCell ⟨w.heap.size, 0, none⟩ (.slice vx vn vc)).setCell ⟨w.heap.size, 1, none⟩ (.int .i64 log3)).setCell ⟨w.heap.size, 2, none⟩ (.int .i64 next3) := ⟨_, rfl⟩
          rw [← hw7]
          obtain ⟨z1, z2⟩ := three_set HK6.out w7 hw7
          have HZ7 := Lib.hid (HZ6.out.chg z2 (by omega))
          have HK7 := Lib.hid z1
          have HB7 := Lib.hid (HB6.out.trans (z2.below HB6.out.size fun g hg e => by omega))
          have HCH := Lib.hid z2
          refine hK.out _ _ trivial (fun _ e => absurd rfl e) ?_
          clear hK K hw7 z1 z2 hS6 g0 g1 g2
          try simp only [Act.put, List.setIfInBounds_toArray, List.set_cons_zero, List.set_cons_succ]
          refine two_one 10 rfl (by kernel_rfl) ?_
          intro K hK
          go_simp
          refine hK.out _ _ trivial (fun e _ => two_past e (by kernel_rfl)) ?_
          clear hK K
          refine two_done (by kernel_rfl) ?_ _
          go_wp2_with fail
          go_roundw
          case rel => exact ⟨k + 1, true, rfl, by go_num, by have := HLT.out; omega, HB7.out, HZ7.out, .inl ⟨rfl, ⟨l3, log3, next3⟩, _, Hv0.out, HST.out, HK7.out, (HRD2.out.chg HCH.out (fun g e => by omega)).rd⟩⟩
          case measure => simp [intOf]; omega
      · obtain rfl : k = l.length := by omega
        have HRs := Lib.hid (show R = some ⟨l2, log2, next2⟩ by
          rw [HR.out]; unfold allQ; rw [if_pos Hv0.out]
          have := Hall.out
          rw [List.take_length] at this
          exact this)
        go_wp2_with fail
        refine (edClone_any _ ⟨l2, log2, next2⟩ wr Hrd.out Hv'.out.some (by have : l2.length ≤ 16 := Hv'.out.few; show l2.length ≤ 1000; omega) (fun j hj => by have : l2[j].tabs.length ≤ 128 := (Hv'.out.each j hj).2.2.2; show l2[j].tabs.length ≤ 1000000; omega)).mono ?_
        rintro e w5 ⟨tb, raw, rfl, ho, hb5⟩
        unfold stV
        simp only at ho ⊢
        have HZ5 := Lib.hid (Hb2.out.below hb5)
        have HB5 := Lib.hid (Hbe.out.trans (hb5.mono Hbe.out.size))
        have HO := Lib.hid ho
        have hzz : w.heap.size + 1 < wr.heap.size := Hb2.out.lt
        clear ho hb5 r0 r1 r2 f0 f1 f2 a0 a1 a2 g0 g1 g2
        obtain ⟨r0, r1, r2, f0, f1, f2⟩ := blk3 HZ5.out
        go_wp2_with fail
        obtain ⟨w6, hw6⟩ : ∃ w6, w6 = ((w5.setCell ⟨w.heap.size + 1, 0, none⟩ (.slice (some ⟨tb, 0, none⟩) l2.length l2.length)).setCell ⟨w.heap.size + 1, 1, none⟩ (.int .i64 log2)).setCell ⟨w.heap.size + 1, 2, none⟩ (.int .i64 next2) := ⟨_, rfl⟩
        rw [← hw6]
        obtain ⟨z1, z2⟩ := three_set HZ5.out w6 hw6
        obtain ⟨k0, k1, k2, _⟩ := blk3 z1
        have hB6 : Below w.heap.size w w6 := HB5.out.trans (z2.below HB5.out.size fun g hg e => by omega)
        have hfin := (HO.out.rdb l2.length).chg z2 (fun g e => by omega)
        clear hw6 z1 r0 r1 r2 f0 f1 f2
        refine bodyPost_ret (v := .tuple #[.agg #[.slice (some ⟨tb, 0, none⟩) l2.length l2.length, .int .i64 log2, .int .i64 next2], .bool true]) (by simp [results, Tryz.results15, go_sem, k0, k1, k2]) rfl ⟨hB6, ?_⟩
        rw [HRs.out]
        exact ⟨_, rfl, hfin.weak (by omega)⟩
    · have HRn := Lib.hid hRn
      have Hblk := Lib.hid hblk
      clear hblk hRn
      go_wp2_with fail
      obtain ⟨w5, hw5⟩ : ∃ w5, w5 = ((wr.setCell ⟨w.heap.size + 1, 0, none⟩ (.slice none 0 0)).setCell ⟨w.heap.size + 1, 1, none⟩ (.int .i64 0)).setCell ⟨w.heap.size + 1, 2, none⟩ (.int .i64 0) := ⟨_, rfl⟩
      rw [← hw5]
      obtain ⟨z1, z2⟩ := three_set Hb2.out w5 hw5
      obtain ⟨k0, k1, k2, _⟩ := blk3 z1
      have hB5 : Below w.heap.size w w5 := Hbe.out.trans (z2.below Hbe.out.size fun g hg e => by omega)
      clear hw5 z1 z2 r0 r1 r2 f0 f1 f2
      refine bodyPost_ret (v := .tuple #[.agg #[.slice none 0 0, .int .i64 0, .int .i64 0], .bool false]) (by simp [results, Tryz.results15, go_sem, k0, k1, k2]) rfl ⟨hB5, ?_⟩
      rw [HRn.out]
      exact rfl
end Go.Proofs.YtcijhhnbhnaiaaaGreat

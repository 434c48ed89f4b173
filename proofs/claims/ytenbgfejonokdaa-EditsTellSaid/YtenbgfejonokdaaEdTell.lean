/- A state, an edit and a key, by the program and by the document, walked. -/
import Derived.Test.YtenbgfejonokdaaEdTellR
import Derived.Test.YtenbgfejonokdaaEdOpenS
import Derived.Test.YtenbgfejonokdaaEdRest
import Derived.Test.YtenbgfejonokdaaEdLives
namespace Go.Proofs.Ytenbgfejonokdaa
set_option linter.unusedSimpArgs false
set_option linter.unusedVariables false
set_option maxRecDepth 100000
open Go.RowKit
attribute [local go_sem ↓] Go.wp_at_zero Go.wp_at_succ

/-- What an edit comes to, or nothing. -/
def orNone (R : Option Ed.St) : Ed.St := match R with | some s => s | none => ⟨[], 0, 0⟩
theorem fits_nil : Fits [] := ⟨Nat.zero_le _, fun j hj => absurd hj (by simp)⟩
theorem orNone_fits {s : Ed.St} {e : Ed.Edit} : Fits (orNone (Ed.applyP s e)).l := by
  cases h : Ed.applyP s e with
  | none => exact fits_nil
  | some s2 => exact valid_fits (applyP_valid h)
theorem rdT_nil (w : World) : RdT w (.slice none 0 0) [] := ⟨none, 0, rfl, fun j hj => absurd hj (by simp)⟩
theorem applyE_any (tv : Value) (s : Ed.St) (e : Ed.Edit) (fv : Value) (w : World) (h : RdT w tv s.l) (hf : Fits s.l) (hfl : RdI w fv e.files) (hff : e.files.length ≤ 1000) (hkey : e.key.size ≤ maxLen) (hat : -9223372036854775808 ≤ e.at_ ∧ e.at_ ≤ 9223372036854775807) :
    Calls Try.prog 42 #[stV tv s.log s.next, edV e fv] w fun E w' => ∃ v, E = .returned (.tuple #[stV v (orNone (Ed.applyP s e)).log (orNone (Ed.applyP s e)).next, .bool (Ed.applyP s e).isSome]) ∧ RdT w' v (orNone (Ed.applyP s e)).l ∧ Below w.heap.size w w' := by
  refine (apply_any tv s e fv w h hf hfl hff hkey hat).mono ?_
  rintro E w' ⟨hb, hm⟩
  cases hr : Ed.applyP s e with
  | none => rw [hr] at hm; exact ⟨_, hm, rdT_nil _, hb⟩
  | some s2 =>
    rw [hr] at hm
    obtain ⟨t2, rfl, hrd⟩ := hm
    exact ⟨t2, rfl, hrd.rd, hb⟩
theorem refApplyE_any (tv : Value) (s : Ed.St) (e : Ed.Edit) (fv : Value) (w : World) (h : RdTC w tv s.l) (hf : Fits s.l) (hfl : RdI w fv e.files) (hff : e.files.length ≤ 1000) (hkey : e.key.size ≤ maxLen) (hat : -9223372036854775808 ≤ e.at_ ∧ e.at_ ≤ 9223372036854775807) :
    Calls Try.prog 43 #[stV tv s.log s.next, edV e fv] w fun E w' => ∃ v, E = .returned (.tuple #[stV v (orNone (Ed.applyP s e)).log (orNone (Ed.applyP s e)).next, .bool (Ed.applyP s e).isSome]) ∧ RdT w' v (orNone (Ed.applyP s e)).l ∧ Below w.heap.size w w' := by
  refine (refApply_any tv s e fv w h hf hfl hff hkey hat).mono ?_
  rintro E w' ⟨hb, hm⟩
  cases hr : Ed.applyP s e with
  | none => rw [hr] at hm; exact ⟨_, hm, rdT_nil _, hb⟩
  | some s2 =>
    rw [hr] at hm
    obtain ⟨t2, rfl, hrd⟩ := hm
    exact ⟨t2, rfl, hrd.rd.rd, hb⟩
theorem filesP_small (s : Ed.St) : (filesP s).length ≤ maxLen := by
  unfold filesP
  split
  · rename_i h
    have h1 := filesL_small ((Ed.validB_iff s).1 h) s.l.length
    rw [List.take_length] at h1
    unfold maxLen; omega
  · exact Nat.zero_le _
/-- Three states' boxes. -/
def T9 (a b c : Nat) (u0 u1 u2 v0 v1 v2 x0 x1 x2 : Value) (W : World) : Prop :=
  (W.cell? ⟨a, 0, none⟩ = some u0 ∧ W.cell? ⟨a, 1, none⟩ = some u1 ∧ W.cell? ⟨a, 2, none⟩ = some u2) ∧ (W.cell? ⟨b, 0, none⟩ = some v0 ∧ W.cell? ⟨b, 1, none⟩ = some v1 ∧ W.cell? ⟨b, 2, none⟩ = some v2) ∧ W.cell? ⟨c, 0, none⟩ = some x0 ∧ W.cell? ⟨c, 1, none⟩ = some x1 ∧ W.cell? ⟨c, 2, none⟩ = some x2
theorem T9.below {a b c : Nat} {u0 u1 u2 v0 v1 v2 x0 x1 x2 : Value} {W W' : World} (h : T9 a b c u0 u1 u2 v0 v1 v2 x0 x1 x2 W) (x : Below W.heap.size W W') (ha : a < W.heap.size) (hb : b < W.heap.size) (hc : c < W.heap.size) : T9 a b c u0 u1 u2 v0 v1 v2 x0 x1 x2 W' :=
  ⟨⟨(x.cell (p := ⟨a, 0, none⟩) ha).trans h.1.1, (x.cell (p := ⟨a, 1, none⟩) ha).trans h.1.2.1, (x.cell (p := ⟨a, 2, none⟩) ha).trans h.1.2.2⟩, ⟨(x.cell (p := ⟨b, 0, none⟩) hb).trans h.2.1.1, (x.cell (p := ⟨b, 1, none⟩) hb).trans h.2.1.2.1, (x.cell (p := ⟨b, 2, none⟩) hb).trans h.2.1.2.2⟩,
    (x.cell (p := ⟨c, 0, none⟩) hc).trans h.2.2.1, (x.cell (p := ⟨c, 1, none⟩) hc).trans h.2.2.2.1, (x.cell (p := ⟨c, 2, none⟩) hc).trans h.2.2.2.2⟩
theorem sameB_me' (s : Ed.St) : sameB s s = true := by unfold sameB; simp
theorem rdE_one {W : World} {g : Nat} {e : Ed.Edit} {fv : Value} (h : Blk W g 74 #[.int .i64 e.kind, .int .i64 e.at_, .int .i64 e.file, fv, .string e.key]) (hfl : RdI W fv e.files) : RdE W (.slice (some ⟨g, 0, none⟩) 1 1) [e] :=
  ⟨_, 1, rfl, fun j hj => by
    obtain rfl : j = 0 := by simp at hj; omega
    exact ⟨g, 0, fv, rfl, h.lt, h.cell 0, h.cell 1, h.cell 2, h.cell 3, h.cell 4, hfl⟩⟩
set_option maxHeartbeats 2000000 in
theorem walkEditsTell (x : Value × Ed.St) (y : Value × Ed.Edit) (key : ByteArray) (w : World) (h1 : StIn w x) (h2 : EdIn w y) (h3 : key.size ≤ maxLen) :
    Calls Try.prog 12 #[stV x.1 x.2.log x.2.next, edV y.2 y.1, .string key] w fun e w' => e = .returned (.bool true) ∧ Below w.heap.size w w' := by
  obtain ⟨tv, s⟩ := x
  obtain ⟨fv, e⟩ := y
  obtain ⟨hr, hf⟩ := h1
  obtain ⟨hfl, hbd⟩ := h2
  simp only at hr hf hfl hbd ⊢
  obtain ⟨w1, hw1⟩ : ∃ w1, w1 = (w.alloc (.cells #[tv, .int .i64 s.log, .int .i64 s.next] 67 (0, 0))).alloc (.cells #[.int .i64 e.kind, .int .i64 e.at_, .int .i64 e.file, fv, .string e.key] 74 (0, 0)) := ⟨_, rfl⟩
  obtain ⟨k1, k2, kb⟩ := two_allocs w _ _ _ _ w1 hw1
  have HR := Lib.hid hr
  have HF := Lib.hid hf
  have HFL := Lib.hid hfl
  have HBD := Lib.hid hbd
  have HB1 := Lib.hid kb
  have K1 := Lib.hid k1
  have K2 := Lib.hid k2
  have HW := Lib.hid hw1
  have HBS := Lib.hid (beyondState_any tv s w1 (hr.rd.below kb) hf)
  unfold stV at HBS
  unfold stV edV
  obtain ⟨tx, tc, htv, _⟩ := hr
  obtain ⟨tn, htn⟩ : ∃ tn, tn = s.l.length := ⟨_, rfl⟩
  rw [← htn] at htv
  subst htv
  have HTN := Lib.hid htn
  obtain ⟨fx, fc, hfv, _⟩ := hfl.form
  obtain ⟨fn, hfn⟩ : ∃ fn, fn = e.files.length := ⟨_, rfl⟩
  rw [← hfn] at hfv
  subst hfv
  have HFN := Lib.hid hfn
  obtain ⟨a0, a1, a2, _⟩ := blk3 k1
  obtain ⟨e0, e1, e2, e3, e4⟩ := blk5 k2
  rw [hw1] at a0 a1 a2 e0 e1 e2 e3 e4 HBS
  clear hf hfl hbd kb k1 k2 hw1 htn hfn
  go_enter Try.func12, Try.ntmps12
  go_wp2_with fail
  refine HBS.out.mono ?_
  rintro e' w2 ⟨⟨b, rfl, hsm⟩, hb2⟩
  rw [← HW.out] at hb2
  have HB2 := Lib.hid (HB1.out.trans (hb2.mono HB1.out.size))
  have K1b := Lib.hid (K1.out.below hb2)
  have K2b := Lib.hid (K2.out.below hb2)
  clear a0 a1 a2 e0 e1 e2 e3 e4 hb2
  obtain ⟨e0, e1, e2, e3, e4⟩ := blk5 K2b.out
  cases b with
  | true =>
    clear hsm
    go_wp2_with fail
    refine (lives_any w2).mono ?_
    rintro e w9 ⟨rfl, hb9⟩
    go_wp2_with fail
    go_ret
    exact ⟨rfl, HB2.out.trans (hb9.mono HB2.out.size)⟩
  | false =>
    have HSM := Lib.hid (hsm rfl)
    clear hsm
    obtain ⟨w3, hw3⟩ : ∃ w3, w3 = w2.alloc (.cells #[.int .i64 e.kind, .int .i64 e.at_, .int .i64 e.file, .slice fx fn fc, .string e.key] 74 (0, 0)) := ⟨_, rfl⟩
    obtain ⟨kc, kcb⟩ := five_cells w3 hw3
    have HB3 := Lib.hid (HB2.out.trans (kcb.mono HB2.out.size))
    have K1c := Lib.hid (K1b.out.below kcb)
    have K2c := Lib.hid (K2b.out.below kcb)
    have HBY := Lib.hid (beyond_any (.slice (some ⟨w2.heap.size, 0, none⟩) 1 1) [e] 1 w3 (rdE_one kc (HFL.out.below HB3.out)) (by simp [maxLen]) (fun j hj => by
      obtain rfl : j = 0 := by simp at hj; omega
      exact ⟨HBD.out.files, HBD.out.key⟩))
    rw [hw3] at HBY
    have HW3 := Lib.hid hw3
    clear hw3 kc kcb
    go_wp2_with fail
    refine HBY.out.mono ?_
    rintro e' w4 ⟨⟨b, rfl, hsm⟩, rfl⟩
    rw [← HW3.out]
    by_cases hb1 : b = 1
    · subst hb1
      go_wp2_with fail
      refine (lives_any w3).mono ?_
      rintro e w9 ⟨rfl, hb9⟩
      go_wp2_with fail
      go_ret
      exact ⟨rfl, HB3.out.trans (hb9.mono HB3.out.size)⟩
    have hbf : (b == 1) = false := beq_eq_false_iff_ne.2 hb1
    rw [hbf]
    have HS := Lib.hid (hsm hb1)
    clear hb1 hbf hsm e0 e1 e2 e3 e4
    by_cases hk200 : 200 < key.size
    · have hk2 : (200 : Int) < key.size := by unfold maxLen at h3; omega
      go_wp2_with fail
      refine (lives_any w3).mono ?_
      rintro e w9 ⟨rfl, hb9⟩
      go_wp2_with fail
      go_ret
      exact ⟨rfl, HB3.out.trans (hb9.mono HB3.out.size)⟩
    have hk2 : ¬ (200 : Int) < key.size := by omega
    obtain ⟨hef, hek⟩ := HS.out.2 0 (by simp)
    simp only [List.getElem_cons_zero] at hef hek
    have HAP := Lib.hid (applyE_any (.slice tx tn tc) s e (.slice fx fn fc) w3 (HR.out.rd.below HB3.out) HF.out (HFL.out.below HB3.out) (by omega) HBD.out.key HBD.out.at_)
    have HAR := Lib.hid (fun (W : World) (hW : Below w.heap.size w W) => refApplyE_any (.slice tx tn tc) s e (.slice fx fn fc) W (HR.out.below hW) HF.out (HFL.out.below hW) (by omega) HBD.out.key HBD.out.at_)
    obtain ⟨R0, hR0⟩ : ∃ R0, R0 = orNone (Ed.applyP s e) := ⟨_, rfl⟩
    obtain ⟨ro, hro⟩ : ∃ ro, ro = (Ed.applyP s e).isSome := ⟨_, rfl⟩
    have HFR := Lib.hid (show Fits R0.l by rw [hR0]; exact orNone_fits)
    simp only [← hR0, ← hro] at HAP HAR
    unfold stV edV at HAP HAR
    obtain ⟨a0, a1, a2, _⟩ := blk3 K1c.out
    obtain ⟨e0, e1, e2, e3, e4⟩ := blk5 K2c.out
    obtain ⟨rn, hrn⟩ : ∃ rn, rn = R0.l.length := ⟨_, rfl⟩
    have HRN := Lib.hid hrn
    clear hR0 hro hef hek hrn
    go_wp2_with fail
    refine HAP.out.mono ?_
    rintro e' w5 ⟨va, rfl, hra, hb5⟩
    obtain ⟨ax, ac, hva, _⟩ := id hra
    rw [← HRN.out] at hva
    subst hva
    obtain ⟨w6, hw6⟩ : ∃ w6, w6 = w5.alloc (.cells #[.slice ax rn ac, .int .i64 R0.log, .int .i64 R0.next] 67 (0, 0)) := ⟨_, rfl⟩
    obtain ⟨ka, kab⟩ := three_cells' w6 hw6
    obtain ⟨qa, hqa⟩ : ∃ qa, qa = w5.heap.size := ⟨_, rfl⟩
    rw [← hqa] at ka
    have HB6 := Lib.hid ((HB3.out.trans (hb5.mono HB3.out.size)).trans (kab.mono (by have := HB3.out.size; have := hb5.size; omega)))
    have HRA := Lib.hid (hra.below kab)
    have KA := Lib.hid ka
    have K1d := Lib.hid ((K1c.out.below hb5).below kab)
    have K2d := Lib.hid ((K2c.out.below hb5).below kab)
    have HW6 := Lib.hid hw6
    have HQA := Lib.hid hqa
    clear a0 a1 a2 e0 e1 e2 e3 e4
    obtain ⟨a0, a1, a2, _⟩ := blk3 K1d.out
    obtain ⟨e0, e1, e2, e3, e4⟩ := blk5 K2d.out
    rw [hw6] at a0 a1 a2 e0 e1 e2 e3 e4
    clear hra hb5 hw6 hqa ka kab
    go_wp2_with fail
    rw [← HW6.out, ← HQA.out]
    refine (HAR.out w6 HB6.out).mono ?_
    rintro e' w7 ⟨vb, rfl, hrb, hb7⟩
    obtain ⟨bx, bc, hvb, _⟩ := id hrb
    rw [← HRN.out] at hvb
    subst hvb
    obtain ⟨y0, hw8⟩ : ∃ w8, w8 = w7.alloc (.cells #[.slice bx rn bc, .int .i64 R0.log, .int .i64 R0.next] 67 (0, 0)) := ⟨_, rfl⟩
    obtain ⟨kb, kbb⟩ := three_cells' y0 hw8
    obtain ⟨qb, hqb⟩ : ∃ qb, qb = w7.heap.size := ⟨_, rfl⟩
    rw [← hqb] at kb
    have HB8 := Lib.hid ((HB6.out.trans (hb7.mono HB6.out.size)).trans (kbb.mono (by have := HB6.out.size; have := hb7.size; omega)))
    have HRA8 := Lib.hid ((HRA.out.below hb7).below kbb)
    have HRB8 := Lib.hid (hrb.below kbb)
    have HT9 := Lib.hid (show T9 w.heap.size qa qb (.slice tx tn tc) (.int .i64 s.log) (.int .i64 s.next) (.slice ax rn ac) (.int .i64 R0.log) (.int .i64 R0.next) (.slice bx rn bc) (.int .i64 R0.log) (.int .i64 R0.next) y0 by
      obtain ⟨x0, x1, x2, _⟩ := blk3 ((K1d.out.below hb7).below kbb)
      obtain ⟨x3, x4, x5, _⟩ := blk3 ((KA.out.below hb7).below kbb)
      obtain ⟨x6, x7, x8, _⟩ := blk3 kb
      exact ⟨⟨x0, x1, x2⟩, ⟨x3, x4, x5⟩, x6, x7, x8⟩)
    have hlq : w.heap.size < y0.heap.size ∧ qa < y0.heap.size ∧ qb < y0.heap.size := ⟨((K1d.out.below hb7).below kbb).lt, ((KA.out.below hb7).below kbb).lt, kb.lt⟩
    have HW8 := Lib.hid hw8
    have HQB := Lib.hid hqb
    clear a0 a1 a2 e0 e1 e2 e3 e4 hrb hb7 hw8 hqb kb kbb
    obtain ⟨hl1, hl2, hl3⟩ := hlq
    go_wp2_with fail
    rw [← HW8.out, ← HQB.out]
    refine wp_region_two (T := T9 w.heap.size qa qb (.slice tx tn tc) (.int .i64 s.log) (.int .i64 s.next) (.slice ax rn ac) (.int .i64 R0.log) (.int .i64 R0.next) (.slice bx rn bc) (.int .i64 R0.log) (.int .i64 R0.next)) (S := fun _ => True) (n := 34) (by kernel_rfl) ?_
    obtain ⟨y1, hy1⟩ : ∃ y1, y1 = y0.drew := ⟨_, rfl⟩
    rw [← hy1]
    have HY1 := Lib.hid (show Below y0.heap.size y0 y1 by rw [hy1]; exact (Below.refl _ _).drew)
    have hzy1 := HY1.out.size
    have hT := T9.below HT9.out HY1.out hl1 hl2 hl3
    have hS : True := trivial
    clear hy1
    have HRy := Lib.hid (HR.out.below HB8.out)
    have HCK := Lib.hid (fun (W : World) (hW : Below y0.heap.size y0 W) => check_any (.slice tx tn tc) s W (HRy.out.rd.below hW) HF.out)
    have HRK := Lib.hid (fun (W : World) (hW : Below y0.heap.size y0 W) => refCheck_any (.slice tx tn tc) s W (HRy.out.rd.below hW) HF.out)
    have HSS := Lib.hid (fun (W : World) (hW : Below y0.heap.size y0 W) => sameState_any (.slice ax rn ac) (.slice bx rn bc) R0 R0 W (HRA8.out.below hW) (HRB8.out.below hW) HFR.out HFR.out)
    have HFI := Lib.hid (fun (W : World) (hW : Below y0.heap.size y0 W) => find_any (.slice tx tn tc) s key W (HRy.out.rd.below hW) HF.out)
    have HRF := Lib.hid (fun (W : World) (hW : Below y0.heap.size y0 W) => refFind_any (.slice tx tn tc) s key W (HRy.out.rd.below hW) HF.out)
    have HFS := Lib.hid (fun (W : World) (hW : Below y0.heap.size y0 W) => files_any (.slice tx tn tc) s W (HRy.out.rd.below hW) HF.out)
    have HRS := Lib.hid (fun (W : World) (hW : Below y0.heap.size y0 W) => refFiles_any (.slice tx tn tc) s W (HRy.out.rd.below hW) HF.out)
    rw [sameB_me'] at HSS
    unfold stV at HCK HRK HSS HFI HRF HFS HRS
    refine two_takeT 0 (some 36) (v := ?_) rfl rfl (by kernel_rfl) (by kernel_rfl) (by kernel_rfl) (by decide) (fun _ _ _ h => h) (Or.inl ⟨by rfl, ?hy0⟩) hT hS ?_
    case hy0 => (intro w' hT'; (try unfold T8 at hT'); (try unfold T9 at hT'); (try unfold S8 at hT'); go_simp; (try with_reducible rfl))
    try simp only [Act.put, List.setIfInBounds_toArray, List.set_cons_zero, List.set_cons_succ]
    refine two_takeT 2 (some 38) (v := ?_) rfl rfl (by kernel_rfl) (by kernel_rfl) (by kernel_rfl) (by decide) (fun _ _ _ h => h) (Or.inl ⟨by rfl, ?hy2⟩) hT hS ?_
    case hy2 => (intro w' hT'; (try unfold T8 at hT'); (try unfold T9 at hT'); (try unfold S8 at hT'); go_simp; (try with_reducible rfl))
    try simp only [Act.put, List.setIfInBounds_toArray, List.set_cons_zero, List.set_cons_succ]
    refine two_one 1 rfl (by kernel_rfl) ?_
    intro K hK
    go_simp
    refine (HCK.out y1 HY1.out).mono ?_
    rintro e y2 ⟨rfl, hbz⟩
    have hT1 := T9.below hT hbz (by omega) (by omega) (by omega)
    refine hK.out _ _ hT1 (fun _ _ => hS) ?_
    have Hy2 := Lib.hid (show Below y0.heap.size y0 y2 from (HY1.out).trans (hbz.mono (by omega)))
    have hzy2 := hbz.size
    clear hK K hT hbz
    have hT := hT1
    clear hT1
    try simp only [Act.put, List.setIfInBounds_toArray, List.set_cons_zero, List.set_cons_succ]
    refine two_one 3 rfl (by kernel_rfl) ?_
    intro K hK
    go_simp
    refine (HRK.out y2 Hy2.out).mono ?_
    rintro e y3 ⟨rfl, hbz⟩
    have hT1 := T9.below hT hbz (by omega) (by omega) (by omega)
    refine hK.out _ _ hT1 (fun _ _ => hS) ?_
    have Hy3 := Lib.hid (show Below y0.heap.size y0 y3 from (Hy2.out).trans (hbz.mono (by omega)))
    have hzy3 := hbz.size
    clear hK K hT hbz
    have hT := hT1
    clear hT1
    try simp only [Act.put, List.setIfInBounds_toArray, List.set_cons_zero, List.set_cons_succ]
    refine two_takeT 4 (some 40) (v := ?_) rfl rfl (by kernel_rfl) (by kernel_rfl) (by kernel_rfl) (by decide) (fun _ _ _ h => h) (Or.inl ⟨by rfl, ?hy4⟩) hT hS ?_
    case hy4 => (intro w' hT'; (try unfold T8 at hT'); (try unfold T9 at hT'); (try unfold S8 at hT'); go_simp; (try with_reducible rfl))
    try simp only [Act.put, List.setIfInBounds_toArray, List.set_cons_zero, List.set_cons_succ]
    refine two_takeT 5 (some 41) (v := ?_) rfl rfl (by kernel_rfl) (by kernel_rfl) (by kernel_rfl) (by decide) (fun _ _ _ h => h) (Or.inl ⟨by rfl, ?hy5⟩) hT hS ?_
    case hy5 => (intro w' hT'; (try unfold T8 at hT'); (try unfold T9 at hT'); (try unfold S8 at hT'); go_simp; (try with_reducible rfl))
    try simp only [Act.put, List.setIfInBounds_toArray, List.set_cons_zero, List.set_cons_succ]
    refine two_takeT 6 (some 42) (v := ?_) rfl rfl (by kernel_rfl) (by kernel_rfl) (by kernel_rfl) (by decide) (fun _ _ _ h => h) (Or.inl ⟨by rfl, ?hy6⟩) hT hS ?_
    case hy6 => (intro w' hT'; (try unfold T8 at hT'); (try unfold T9 at hT'); (try unfold S8 at hT'); go_simp; (try with_reducible rfl))
    try simp only [Act.put, List.setIfInBounds_toArray, List.set_cons_zero, List.set_cons_succ]
    refine two_takeT 7 (some 43) (v := ?_) rfl rfl (by kernel_rfl) (by kernel_rfl) (by kernel_rfl) (by decide) (fun _ _ _ h => h) (Or.inl ⟨by rfl, ?hy7⟩) hT hS ?_
    case hy7 => (intro w' hT'; (try unfold T8 at hT'); (try unfold T9 at hT'); (try unfold S8 at hT'); go_simp; (try with_reducible rfl))
    try simp only [Act.put, List.setIfInBounds_toArray, List.set_cons_zero, List.set_cons_succ]
    refine two_takeT 8 (some 44) (v := ?_) rfl rfl (by kernel_rfl) (by kernel_rfl) (by kernel_rfl) (by decide) (fun _ _ _ h => h) (Or.inl ⟨by rfl, ?hy8⟩) hT hS ?_
    case hy8 => (intro w' hT'; (try unfold T8 at hT'); (try unfold T9 at hT'); (try unfold S8 at hT'); go_simp; (try with_reducible rfl))
    try simp only [Act.put, List.setIfInBounds_toArray, List.set_cons_zero, List.set_cons_succ]
    refine two_takeT 9 (some 45) (v := ?_) rfl rfl (by kernel_rfl) (by kernel_rfl) (by kernel_rfl) (by decide) (fun _ _ _ h => h) (Or.inl ⟨by rfl, ?hy9⟩) hT hS ?_
    case hy9 => (intro w' hT'; (try unfold T8 at hT'); (try unfold T9 at hT'); (try unfold S8 at hT'); go_simp; (try with_reducible rfl))
    try simp only [Act.put, List.setIfInBounds_toArray, List.set_cons_zero, List.set_cons_succ]
    refine two_takeT 10 (some 46) (v := ?_) rfl rfl (by kernel_rfl) (by kernel_rfl) (by kernel_rfl) (by decide) (fun _ _ _ h => h) (Or.inl ⟨by rfl, ?hy10⟩) hT hS ?_
    case hy10 => (intro w' hT'; (try unfold T8 at hT'); (try unfold T9 at hT'); (try unfold S8 at hT'); go_simp; (try with_reducible rfl))
    try simp only [Act.put, List.setIfInBounds_toArray, List.set_cons_zero, List.set_cons_succ]
    refine two_takeT 11 (some 47) (v := ?_) rfl rfl (by kernel_rfl) (by kernel_rfl) (by kernel_rfl) (by decide) (fun _ _ _ h => h) (Or.inl ⟨by rfl, ?hy11⟩) hT hS ?_
    case hy11 => (intro w' hT'; (try unfold T8 at hT'); (try unfold T9 at hT'); (try unfold S8 at hT'); go_simp; (try with_reducible rfl))
    try simp only [Act.put, List.setIfInBounds_toArray, List.set_cons_zero, List.set_cons_succ]
    refine two_takeT 12 (some 48) (v := ?_) rfl rfl (by kernel_rfl) (by kernel_rfl) (by kernel_rfl) (by decide) (fun _ _ _ h => h) (Or.inl ⟨by rfl, ?hy12⟩) hT hS ?_
    case hy12 => (intro w' hT'; (try unfold T8 at hT'); (try unfold T9 at hT'); (try unfold S8 at hT'); go_simp; (try with_reducible rfl))
    try simp only [Act.put, List.setIfInBounds_toArray, List.set_cons_zero, List.set_cons_succ]
    refine two_one 13 rfl (by kernel_rfl) ?_
    intro K hK
    go_simp
    refine (HSS.out y3 Hy3.out).mono ?_
    rintro e y4 ⟨rfl, hbz⟩
    have hT1 := T9.below hT hbz (by omega) (by omega) (by omega)
    refine hK.out _ _ hT1 (fun _ _ => hS) ?_
    have Hy4 := Lib.hid (show Below y0.heap.size y0 y4 from (Hy3.out).trans (hbz.mono (by omega)))
    have hzy4 := hbz.size
    clear hK K hT hbz
    have hT := hT1
    clear hT1
    try simp only [Act.put, List.setIfInBounds_toArray, List.set_cons_zero, List.set_cons_succ]
    refine two_takeT 14 (some 50) (v := ?_) rfl rfl (by kernel_rfl) (by kernel_rfl) (by kernel_rfl) (by decide) (fun _ _ _ h => h) (Or.inl ⟨by rfl, ?hy14⟩) hT hS ?_
    case hy14 => (intro w' hT'; (try unfold T8 at hT'); (try unfold T9 at hT'); (try unfold S8 at hT'); go_simp; (try with_reducible rfl))
    try simp only [Act.put, List.setIfInBounds_toArray, List.set_cons_zero, List.set_cons_succ]
    refine two_takeT 15 (some 51) (v := ?_) rfl rfl (by kernel_rfl) (by kernel_rfl) (by kernel_rfl) (by decide) (fun _ _ _ h => h) (Or.inl ⟨by rfl, ?hy15⟩) hT hS ?_
    case hy15 => (intro w' hT'; (try unfold T8 at hT'); (try unfold T9 at hT'); (try unfold S8 at hT'); go_simp; (try with_reducible rfl))
    try simp only [Act.put, List.setIfInBounds_toArray, List.set_cons_zero, List.set_cons_succ]
    refine two_takeT 16 (some 52) (v := ?_) rfl rfl (by kernel_rfl) (by kernel_rfl) (by kernel_rfl) (by decide) (fun _ _ _ h => h) (Or.inl ⟨by rfl, ?hy16⟩) hT hS ?_
    case hy16 => (intro w' hT'; (try unfold T8 at hT'); (try unfold T9 at hT'); (try unfold S8 at hT'); go_simp; (try with_reducible rfl))
    try simp only [Act.put, List.setIfInBounds_toArray, List.set_cons_zero, List.set_cons_succ]
    refine two_takeT 17 (some 53) (v := ?_) rfl rfl (by kernel_rfl) (by kernel_rfl) (by kernel_rfl) (by decide) (fun _ _ _ h => h) (Or.inl ⟨by rfl, ?hy17⟩) hT hS ?_
    case hy17 => (intro w' hT'; (try unfold T8 at hT'); (try unfold T9 at hT'); (try unfold S8 at hT'); go_simp; (try with_reducible rfl))
    try simp only [Act.put, List.setIfInBounds_toArray, List.set_cons_zero, List.set_cons_succ]
    refine two_takeT 19 (some 55) (v := ?_) rfl rfl (by kernel_rfl) (by kernel_rfl) (by kernel_rfl) (by decide) (fun _ _ _ h => h) (Or.inl ⟨by rfl, ?hy19⟩) hT hS ?_
    case hy19 => (intro w' hT'; (try unfold T8 at hT'); (try unfold T9 at hT'); (try unfold S8 at hT'); go_simp; (try with_reducible rfl))
    try simp only [Act.put, List.setIfInBounds_toArray, List.set_cons_zero, List.set_cons_succ]
    refine two_takeT 20 (some 56) (v := ?_) rfl rfl (by kernel_rfl) (by kernel_rfl) (by kernel_rfl) (by decide) (fun _ _ _ h => h) (Or.inl ⟨by rfl, ?hy20⟩) hT hS ?_
    case hy20 => (intro w' hT'; (try unfold T8 at hT'); (try unfold T9 at hT'); (try unfold S8 at hT'); go_simp; (try with_reducible rfl))
    try simp only [Act.put, List.setIfInBounds_toArray, List.set_cons_zero, List.set_cons_succ]
    refine two_one 18 rfl (by kernel_rfl) ?_
    intro K hK
    go_simp
    refine (HFI.out y4 Hy4.out).mono ?_
    rintro e y5 ⟨rfl, hbz⟩
    have hT1 := T9.below hT hbz (by omega) (by omega) (by omega)
    refine hK.out _ _ hT1 (fun _ _ => hS) ?_
    have Hy5 := Lib.hid (show Below y0.heap.size y0 y5 from (Hy4.out).trans (hbz.mono (by omega)))
    have hzy5 := hbz.size
    clear hK K hT hbz
    have hT := hT1
    clear hT1
    try simp only [Act.put, List.setIfInBounds_toArray, List.set_cons_zero, List.set_cons_succ]
    refine two_one 21 rfl (by kernel_rfl) ?_
    intro K hK
    go_simp
    refine (HRF.out y5 Hy5.out).mono ?_
    rintro e y6 ⟨rfl, hbz⟩
    have hT1 := T9.below hT hbz (by omega) (by omega) (by omega)
    refine hK.out _ _ hT1 (fun _ _ => hS) ?_
    have Hy6 := Lib.hid (show Below y0.heap.size y0 y6 from (Hy5.out).trans (hbz.mono (by omega)))
    have hzy6 := hbz.size
    clear hK K hT hbz
    have hT := hT1
    clear hT1
    try simp only [Act.put, List.setIfInBounds_toArray, List.set_cons_zero, List.set_cons_succ]
    refine two_takeT 22 (some 58) (v := ?_) rfl rfl (by kernel_rfl) (by kernel_rfl) (by kernel_rfl) (by decide) (fun _ _ _ h => h) (Or.inl ⟨by rfl, ?hy22⟩) hT hS ?_
    case hy22 => (intro w' hT'; (try unfold T8 at hT'); (try unfold T9 at hT'); (try unfold S8 at hT'); go_simp; (try with_reducible rfl))
    try simp only [Act.put, List.setIfInBounds_toArray, List.set_cons_zero, List.set_cons_succ]
    refine two_takeT 23 (some 59) (v := ?_) rfl rfl (by kernel_rfl) (by kernel_rfl) (by kernel_rfl) (by decide) (fun _ _ _ h => h) (Or.inl ⟨by rfl, ?hy23⟩) hT hS ?_
    case hy23 => (intro w' hT'; (try unfold T8 at hT'); (try unfold T9 at hT'); (try unfold S8 at hT'); go_simp; (try with_reducible rfl))
    try simp only [Act.put, List.setIfInBounds_toArray, List.set_cons_zero, List.set_cons_succ]
    refine two_takeT 24 (some 60) (v := ?_) rfl rfl (by kernel_rfl) (by kernel_rfl) (by kernel_rfl) (by decide) (fun _ _ _ h => h) (Or.inl ⟨by rfl, ?hy24⟩) hT hS ?_
    case hy24 => (intro w' hT'; (try unfold T8 at hT'); (try unfold T9 at hT'); (try unfold S8 at hT'); go_simp; (try with_reducible rfl))
    try simp only [Act.put, List.setIfInBounds_toArray, List.set_cons_zero, List.set_cons_succ]
    refine two_takeT 25 (some 61) (v := ?_) rfl rfl (by kernel_rfl) (by kernel_rfl) (by kernel_rfl) (by decide) (fun _ _ _ h => h) (Or.inl ⟨by rfl, ?hy25⟩) hT hS ?_
    case hy25 => (intro w' hT'; (try unfold T8 at hT'); (try unfold T9 at hT'); (try unfold S8 at hT'); go_simp; (try with_reducible rfl))
    try simp only [Act.put, List.setIfInBounds_toArray, List.set_cons_zero, List.set_cons_succ]
    refine two_takeT 27 (some 63) (v := ?_) rfl rfl (by kernel_rfl) (by kernel_rfl) (by kernel_rfl) (by decide) (fun _ _ _ h => h) (Or.inl ⟨by rfl, ?hy27⟩) hT hS ?_
    case hy27 => (intro w' hT'; (try unfold T8 at hT'); (try unfold T9 at hT'); (try unfold S8 at hT'); go_simp; (try with_reducible rfl))
    try simp only [Act.put, List.setIfInBounds_toArray, List.set_cons_zero, List.set_cons_succ]
    refine two_one 26 rfl (by kernel_rfl) ?_
    intro K hK
    go_simp
    refine (HFS.out y6 Hy6.out).mono ?_
    rintro e y7 ⟨va, rfl, hrv, hbz⟩
    have hT1 := T9.below hT hbz (by omega) (by omega) (by omega)
    refine hK.out _ _ hT1 (fun _ _ => hS) ?_
    have Hy7 := Lib.hid (show Below y0.heap.size y0 y7 from (Hy6.out).trans (hbz.mono (by omega)))
    have HRva := Lib.hid hrv
    have hb78 := hbz
    have hzy7 := hbz.size
    clear hK K hT hbz hrv
    have hT := hT1
    clear hT1
    try simp only [Act.put, List.setIfInBounds_toArray, List.set_cons_zero, List.set_cons_succ]
    refine two_one 28 rfl (by kernel_rfl) ?_
    intro K hK
    go_simp
    refine (HRS.out y7 Hy7.out).mono ?_
    rintro e y8 ⟨vb, rfl, hrv, hbz⟩
    have hT1 := T9.below hT hbz (by omega) (by omega) (by omega)
    refine hK.out _ _ hT1 (fun _ _ => hS) ?_
    have Hy8 := Lib.hid (show Below y0.heap.size y0 y8 from (Hy7.out).trans (hbz.mono (by omega)))
    have HRvb := Lib.hid hrv
    have hb78 := hbz
    have hzy8 := hbz.size
    clear hK K hT hbz hrv
    have hT := hT1
    clear hT1
    try simp only [Act.put, List.setIfInBounds_toArray, List.set_cons_zero, List.set_cons_succ]
    have HSI := Lib.hid (sameInts_any va vb (filesP s) (filesP s) y8 (HRva.out.below hb78) HRvb.out (filesP_small s) (filesP_small s))
    rw [decide_eq_true rfl] at HSI
    refine two_one 29 rfl (by kernel_rfl) ?_
    intro K hK
    go_simp
    refine HSI.out.mono ?_
    rintro e y9 ⟨rfl, mm, hy9⟩
    have hbz : Below y8.heap.size y8 y9 := by rw [hy9]; exact below_drewN (Below.refl _ _) _
    have hT1 := T9.below hT hbz (by omega) (by omega) (by omega)
    refine hK.out _ _ hT1 (fun _ _ => hS) ?_
    have Hy9 := Lib.hid (show Below y0.heap.size y0 y9 from (Hy8.out).trans (hbz.mono (by omega)))
    have hzy9 := hbz.size
    clear hK K hT hbz hy9
    have hT := hT1
    clear hT1
    try simp only [Act.put, List.setIfInBounds_toArray, List.set_cons_zero, List.set_cons_succ]
    refine two_takeT 30 (some 66) (v := ?_) rfl rfl (by kernel_rfl) (by kernel_rfl) (by kernel_rfl) (by decide) (fun _ _ _ h => h) (Or.inl ⟨by rfl, ?hy30⟩) hT hS ?_
    case hy30 => (intro w' hT'; (try unfold T8 at hT'); (try unfold T9 at hT'); (try unfold S8 at hT'); go_simp; (try with_reducible rfl))
    try simp only [Act.put, List.setIfInBounds_toArray, List.set_cons_zero, List.set_cons_succ]
    refine two_takeT 31 (some 67) (v := ?_) rfl rfl (by kernel_rfl) (by kernel_rfl) (by kernel_rfl) (by decide) (fun _ _ _ h => h) (Or.inl ⟨by rfl, ?hy31⟩) hT hS ?_
    case hy31 => (intro w' hT'; (try unfold T8 at hT'); (try unfold T9 at hT'); (try unfold S8 at hT'); go_simp; (try with_reducible rfl))
    try simp only [Act.put, List.setIfInBounds_toArray, List.set_cons_zero, List.set_cons_succ]
    have HLV := Lib.hid (fun (W : World) (hW : Below y0.heap.size y0 W) => lives_any W)
    refine two_one 32 rfl (by kernel_rfl) ?_
    intro K hK
    go_simp
    refine (HLV.out y9 Hy9.out).mono ?_
    rintro e yz ⟨rfl, hbz⟩
    have hT1 := T9.below hT hbz (by omega) (by omega) (by omega)
    refine hK.out _ _ hT1 (fun _ _ => hS) ?_
    have Hyz := Lib.hid (show Below y0.heap.size y0 yz from (Hy9.out).trans (hbz.mono (by omega)))
    have hzyz := hbz.size
    clear hK K hT hbz
    have hT := hT1
    clear hT1
    try simp only [Act.put, List.setIfInBounds_toArray, List.set_cons_zero, List.set_cons_succ]
    refine two_takeT 33 (some 69) (v := ?_) rfl rfl (by kernel_rfl) (by kernel_rfl) (by kernel_rfl) (by decide) (fun _ _ _ h => h) (Or.inl ⟨by rfl, ?hy33⟩) hT hS ?_
    case hy33 => (intro w' hT'; (try unfold T8 at hT'); (try unfold T9 at hT'); (try unfold S8 at hT'); go_simp; (try with_reducible rfl))
    try simp only [Act.put, List.setIfInBounds_toArray, List.set_cons_zero, List.set_cons_succ]
    refine two_one 34 rfl (by kernel_rfl) ?_
    intro K hK
    go_simp
    refine hK.out _ _ hT (fun _ _ => hS) ?_
    clear hK K
    try simp only [Act.put, List.setIfInBounds_toArray, List.set_cons_zero, List.set_cons_succ]
    refine two_done (by kernel_rfl) ?_ _
    clear hT hS
    go_wp2_with fail
    go_ret
    exact ⟨rfl, HB8.out.trans (Hyz.out.mono HB8.out.size)⟩
end Go.Proofs.Ytenbgfejonokdaa

/- Where a key lies; a tablet's stretch; walked. -/
import Derived.Test.YtenbgfejonokdaaEdCheck
import Derived.Test.YtenbgfejonokdaaEdOwn
namespace Go.Proofs.Ytenbgfejonokdaa
set_option linter.unusedSimpArgs false
set_option linter.unusedVariables false
set_option maxRecDepth 100000
open Go.RowKit

/-- A key's tablet. -/
def FindAt (l : List Ed.Tab) (key : ByteArray) (r : Nat) : Prop := ∃ h : r < l.length, Ed.lt key l[r].frm = false ∧ ∀ h2 : r + 1 < l.length, Ed.lt key l[r + 1].frm = true
/-- How the two compare. -/
def cmpT (f key : ByteArray) : Int := if Ed.lt f key = true then -1 else if Ed.lt key f = true then 1 else 0
theorem cmpFind_any (f key : ByteArray) (tv : Value) (hv : tv.oneCell' = true) (w : World) (hs : ∃ x n c, tv = .slice x n c) :
    Calls Try.prog 102 #[.agg #[.string f, tv], .string key] w fun e w' => e = .returned (.int .i64 (cmpT f key)) ∧ Below w.heap.size w w' := by
  obtain ⟨x, n, c, rfl⟩ := hs
  have HB := Lib.hid (show Below w.heap.size w (w.alloc (.cells #[.string f, .slice x n c] 70 (0, 0))) from (Below.refl _ _).alloc (Nat.le_refl _) _)
  obtain ⟨r, hr⟩ : ∃ r, r = cmpT f key := ⟨_, rfl⟩
  rw [← hr]
  have HR := Lib.hid hr
  clear hr
  cases h1 : Ed.lt f key with
  | true =>
    have q : Op.bytesLess f.toList key.toList = true := h1
    have HV := Lib.hid (show r = -1 by rw [HR.out]; unfold cmpT; rw [h1]; rfl)
    clear h1
    go_enter Try.func102, Try.ntmps102
    go_wp2_with fail
    go_ret
    rw [HV.out]
    exact ⟨rfl, HB.out⟩
  | false =>
    have q : Op.bytesLess f.toList key.toList = false := h1
    have hor := Ed.lt_or f key
    rw [q, Bool.false_or] at hor
    cases h2 : Ed.lt key f with
    | true =>
      rw [h2] at hor
      have q2 : (f.toList == key.toList) = false := hor
      have HV := Lib.hid (show r = 1 by rw [HR.out]; unfold cmpT; rw [h1, h2]; rfl)
      clear h1 h2 hor
      go_enter Try.func102, Try.ntmps102
      go_wp2_with fail
      go_ret
      rw [HV.out]
      exact ⟨rfl, HB.out⟩
    | false =>
      rw [h2] at hor
      have q2 : (f.toList == key.toList) = true := hor
      have HV := Lib.hid (show r = 0 by rw [HR.out]; unfold cmpT; rw [h1, h2]; rfl)
      clear h1 h2 hor
      go_enter Try.func102, Try.ntmps102
      go_wp2_with fail
      go_ret
      rw [HV.out]
      exact ⟨rfl, HB.out⟩
def SearchPost (l : List Ed.Tab) (key : ByteArray) (w : World) (e : Ending) (w' : World) : Prop :=
  ∃ (r : Nat) (f : Bool), e = .returned (.tuple #[.int .i64 r, .bool f]) ∧ Below w.heap.size w w' ∧ r ≤ l.length ∧ (∀ (t : Nat) (ht : t < l.length), t < r → Ed.lt l[t].frm key = true) ∧ (∀ (t : Nat) (ht : t < l.length), r ≤ t → Ed.lt l[t].frm key = false) ∧ (f = true ↔ ∃ h : r < l.length, cmpT l[r].frm key = 0)
set_option maxHeartbeats 4000000 in
theorem search_any (tv : Value) (l : List Ed.Tab) (key : ByteArray) (w : World) (h : RdT w tv l) (hn : l.length ≤ 1000) (hmono : ∀ (a b : Nat) (ha : a < l.length) (hb : b < l.length), a ≤ b → Ed.lt l[b].frm key = true → Ed.lt l[a].frm key = true) :
    Calls Try.prog 101 #[tv, .string key, .func (.func 102) #[] #[]] w (SearchPost l key w) := by
  have HRD := Lib.hid h
  obtain ⟨x, c, rfl, hel⟩ := h
  have Hel := Lib.hid hel
  have Hmono := Lib.hid hmono
  clear hel hmono
  go_enter Try.func101, Try.ntmps101
  go_wp2_with fail
  go_loopw [9, 10, 11] (fun v9 v10 _ wr => ∃ i j : Nat, v9 = .int .i64 i ∧ v10 = .int .i64 j ∧ i ≤ j ∧ j ≤ l.length ∧ Below w.heap.size w wr ∧ (∀ (t : Nat) (ht : t < l.length), t < i → Ed.lt l[t].frm key = true) ∧ (∀ (t : Nat) (ht : t < l.length), j ≤ t → Ed.lt l[t].frm key = false)) (fun v9 v10 _ _ => (intOf v10).toNat - (intOf v9).toNat)
  case atStart => exact ⟨0, l.length, rfl, rfl, Nat.zero_le _, Nat.le_refl _, Below.refl _ _, fun t _ h => absurd h (by omega), fun t ht h => absurd ht (by omega)⟩
  case round =>
    obtain ⟨i, j, rfl, rfl, hij, hjn, hbe, hlo, hhi⟩ := hrel
    have Hbe := Lib.hid hbe
    have Hlo := Lib.hid hlo
    have Hhi := Lib.hid hhi
    clear hbe hlo hhi
    by_cases hlt : i < j
    · obtain ⟨m, hm⟩ : ∃ m, m = (i + j) / 2 := ⟨_, rfl⟩
      have hmi : i ≤ m := by omega
      have hmj : m < j := by omega
      have hml : m < l.length := by omega
      obtain ⟨b, off, tv, rfl, hb, c0, c1, hrt⟩ := Hel.out m hml
      obtain ⟨tx, tc, htv, _⟩ := hrt.form
      obtain ⟨tn, htn⟩ : ∃ tn, tn = l[m].tabs.length := ⟨_, rfl⟩
      rw [← htn] at htv
      subst htv
      obtain ⟨f, hf⟩ : ∃ f, f = l[m].frm := ⟨_, rfl⟩
      rw [← hf] at c0
      have d0 := (Hbe.out.cell (p := ⟨b, off + m * 2, none⟩) hb).trans c0
      have d1 := (Hbe.out.cell (p := ⟨b, off + m * 2 + 1, none⟩) hb).trans c1
      have HF := Lib.hid hf
      have hsh : ((i : Int) + j) / 2 = m := by omega
      have Hm := Lib.hid hm
      have hm0 : (0 : Int) ≤ m := by omega
      have hm1 : (m : Int) < l.length := by omega
      have HCF := Lib.hid (fun W : World => cmpFind_any f key (.slice tx tn tc) rfl W ⟨_, _, _, rfl⟩)
      clear c0 c1 hrt htn hf hm
      go_wp2_with fail
      refine (HCF.out wr).mono ?_
      rintro e w2 ⟨rfl, hb2⟩
      have Hb2 := Lib.hid (Hbe.out.trans (hb2.mono Hbe.out.size))
      clear hb2 d0 d1
      cases hc : Ed.lt f key with
      | true =>
        have hcm : cmpT f key = -1 := by unfold cmpT; rw [hc]; rfl
        rw [hcm]
        have HCC := Lib.hid hc
        clear hc hcm
        go_wp2_with fail
        go_roundw
        case rel => exact ⟨m + 1, j, by go_num, rfl, by omega, hjn, Hb2.out, fun t ht h => Hmono.out t m ht hml (by omega) (by rw [← HF.out]; exact HCC.out), Hhi.out⟩
        case measure => simp [intOf]; omega
      | false =>
        have hcm : ¬ cmpT f key < 0 := by unfold cmpT; rw [hc, if_neg (by decide)]; split <;> omega
        obtain ⟨cv, hcv⟩ : ∃ cv, cv = cmpT f key := ⟨_, rfl⟩
        rw [← hcv] at hcm ⊢
        have HCC := Lib.hid hc
        clear hc hcv
        go_wp2_with fail
        go_roundw
        case rel => exact ⟨i, m, rfl, rfl, hmi, by omega, Hb2.out, Hlo.out, fun t ht h => by
          cases hq : Ed.lt l[t].frm key with
          | false => rfl
          | true => have := Hmono.out m t hml ht h hq; rw [← HF.out, HCC.out] at this; cases this⟩
        case measure => simp [intOf]; omega
    · obtain rfl : i = j := by omega
      have hge : ¬ (i : Int) < i := by omega
      by_cases hin : i < l.length
      · obtain ⟨b, off, tv, rfl, hb, c0, c1, hrt⟩ := Hel.out i hin
        obtain ⟨tx, tc, htv, _⟩ := hrt.form
        obtain ⟨tn, htn⟩ : ∃ tn, tn = l[i].tabs.length := ⟨_, rfl⟩
        rw [← htn] at htv
        subst htv
        obtain ⟨f, hf⟩ : ∃ f, f = l[i].frm := ⟨_, rfl⟩
        rw [← hf] at c0
        have d0 := (Hbe.out.cell (p := ⟨b, off + i * 2, none⟩) hb).trans c0
        have d1 := (Hbe.out.cell (p := ⟨b, off + i * 2 + 1, none⟩) hb).trans c1
        have HF := Lib.hid hf
        have HCF := Lib.hid (fun W : World => cmpFind_any f key (.slice tx tn tc) rfl W ⟨_, _, _, rfl⟩)
        have hm0 : (0 : Int) ≤ i := by omega
        have hm1 : (i : Int) < l.length := by omega
        have Hin := Lib.hid hin
        obtain ⟨cv, hcv⟩ : ∃ cv, cv = cmpT f key := ⟨_, rfl⟩
        rw [← hcv] at HCF
        have HCV := Lib.hid hcv
        clear c0 c1 hrt htn hf hcv
        go_wp2_with fail
        refine (HCF.out wr).mono ?_
        rintro e w2 ⟨rfl, hb2⟩
        have Hb2 := Lib.hid (Hbe.out.trans (hb2.mono Hbe.out.size))
        clear hb2 d0 d1
        go_wp2_with fail
        go_ret2
        unfold SearchPost
        refine ⟨i, cv == 0, rfl, Hb2.out, by omega, Hlo.out, Hhi.out, ?_⟩
        rw [beq_iff_eq]
        constructor
        · intro h; exact ⟨Hin.out, by rw [← HF.out, ← HCV.out, h]⟩
        · rintro ⟨h1, h2⟩; rw [HCV.out, HF.out, h2]
      · have hni : ¬ (i : Int) < l.length := by omega
        go_wp2_with fail
        go_ret2
        unfold SearchPost
        exact ⟨i, false, rfl, Hbe.out, by omega, Hlo.out, Hhi.out, ⟨fun h => (by cases h), fun ⟨h, _⟩ => absurd h hin⟩⟩
/-- Valid states' keys rise. -/
theorem valid_mono {s : Ed.St} (h : Ed.Valid s) : ∀ (a b : Nat) (ha : a < s.l.length) (hb : b < s.l.length), a < b → Ed.lt s.l[a].frm s.l[b].frm = true := by
  intro a b ha hb hab
  induction b with
  | zero => omega
  | succ b ih =>
    have h1 := (h.each (b + 1) hb).2.1 (by omega)
    simp only [Nat.add_sub_cancel] at h1
    by_cases e : a = b
    · subst e; exact h1
    · exact Ed.lt_trans (ih (by omega) (by omega)) h1
theorem findAt_unique {s : Ed.St} (hv : Ed.Valid s) {key : ByteArray} {r q : Nat} (h : FindAt s.l key r) (k : FindAt s.l key q) : r = q := by
  obtain ⟨h1, h2, h3⟩ := h
  obtain ⟨k1, k2, k3⟩ := k
  rcases Nat.lt_trichotomy r q with e | e | e
  · have h4 := h3 (by omega)
    by_cases e2 : r + 1 = q
    · subst e2; rw [h4] at k2; cases k2
    · have := Ed.lt_trans h4 (valid_mono hv (r + 1) q (by omega) k1 (by omega))
      rw [this] at k2; cases k2
  · exact e
  · have h4 := k3 (by omega)
    by_cases e2 : q + 1 = r
    · subst e2; rw [h4] at h2; cases h2
    · have := Ed.lt_trans h4 (valid_mono hv (q + 1) r (by omega) h1 (by omega))
      rw [this] at h2; cases h2
open Classical in
/-- Where a key lies. -/
noncomputable def findI (s : Ed.St) (key : ByteArray) : Int := if h : Ed.Valid s ∧ ∃ r, FindAt s.l key r then (h.2.choose : Nat) else -1
theorem findI_eq {s : Ed.St} (hv : Ed.Valid s) {key : ByteArray} {r : Nat} (h : FindAt s.l key r) : findI s key = r := by
  unfold findI
  rw [dif_pos ⟨hv, r, h⟩]
  have := Exists.choose_spec (⟨r, h⟩ : ∃ r, FindAt s.l key r)
  exact congrArg _ (findAt_unique hv this h)
theorem findI_not {s : Ed.St} (hv : ¬ Ed.Valid s) (key : ByteArray) : findI s key = -1 := by unfold findI; rw [dif_neg fun h => hv h.1]
set_option maxHeartbeats 4000000 in
theorem find_any (tv : Value) (s : Ed.St) (key : ByteArray) (w : World) (h : RdT w tv s.l) (hf : Fits s.l) :
    Calls Try.prog 48 #[stV tv s.log s.next, .string key] w fun e w' => e = .returned (.int .i64 (findI s key)) ∧ Below w.heap.size w w' := by
  obtain ⟨w1, hw1⟩ : ∃ w1, w1 = w.alloc (.cells #[tv, .int .i64 s.log, .int .i64 s.next] 67 (0, 0)) := ⟨_, rfl⟩
  have hb1 : Below w.heap.size w w1 := by rw [hw1]; exact (Below.refl _ _).alloc (Nat.le_refl _) _
  have B1 : Blk w1 w.heap.size 67 #[tv, .int .i64 s.log, .int .i64 s.next] := by rw [hw1]; exact Blk.alloc_new _ _ _
  have HC := Lib.hid (check_any tv s w1 (h.below hb1) hf)
  have HRD := Lib.hid (h.below hb1)
  obtain ⟨R, hR⟩ : ∃ R, R = findI s key := ⟨_, rfl⟩
  rw [← hR]
  have HR := Lib.hid hR
  obtain ⟨tx, tc, htv, _⟩ := h
  obtain ⟨tn, htn⟩ : ∃ tn, tn = s.l.length := ⟨_, rfl⟩
  rw [← htn] at htv
  subst htv
  have HTN := Lib.hid htn
  have HW := Lib.hid hw1
  have HB1 := Lib.hid hb1
  have K1 := Lib.hid B1
  unfold stV at *
  obtain ⟨l, log, next⟩ := s
  simp only at *
  clear hR htn hw1 hb1 B1 hf
  by_cases hv : Ed.Valid ⟨l, log, next⟩
  case neg =>
    rw [Ed.validB_false hv] at HC
    have HN := Lib.hid (HR.out.trans (findI_not hv key))
    clear hv
    go_enter Try.func48, Try.ntmps48
    go_wp2_with fail
    rw [← HW.out]
    refine HC.out.mono ?_
    rintro e w2 ⟨rfl, hb2⟩
    have Hb2 := Lib.hid (HB1.out.trans (hb2.mono HB1.out.size))
    clear hb2
    go_wp2_with fail
    go_ret
    rw [HN.out]
    exact ⟨rfl, Hb2.out⟩
  case pos =>
    rw [Ed.validB_true hv] at HC
    have HV := Lib.hid hv
    clear hv
    go_enter Try.func48, Try.ntmps48
    go_wp2_with fail
    rw [← HW.out]
    refine HC.out.mono ?_
    rintro e w2 ⟨rfl, hb2⟩
    have Hb2 := Lib.hid (HB1.out.trans (hb2.mono HB1.out.size))
    have k0 := (K1.out.below hb2).cell 0
    simp at k0
    have HSR := Lib.hid (search_any (.slice tx tn tc) l key w2 (HRD.out.below hb2) (by have : l.length ≤ 16 := HV.out.few; omega) (fun a b ha hb hab hl => by
      by_cases e : a = b
      · subst e; exact hl
      · exact Ed.lt_trans (valid_mono HV.out a b ha hb (by omega)) hl))
    clear hb2
    go_wp2_with fail
    refine HSR.out.mono ?_
    rintro e w3 ⟨r, f, rfl, hb3, hrl, hlo, hhi, hf⟩
    have Hb3 := Lib.hid (Hb2.out.trans (hb3.mono Hb2.out.size))
    have hsome : 0 < l.length := HV.out.some
    have hfirst : Ed.lt key l[0].frm = false := by
      have : (l[0]'hsome).frm.size = 0 := HV.out.first
      rw [bytes_empty this]
      unfold Ed.lt
      rw [show (⟨#[]⟩ : ByteArray).toList = [] by rw [ByteArray.toList_eq]]
      cases key.toList <;> rfl
    cases hff : f with
    | true =>
      obtain ⟨hr1, hr2⟩ := hf.1 hff
      have HN := Lib.hid (show R = r by
        rw [HR.out]
        refine findI_eq HV.out ⟨hr1, ?_, fun h2 => ?_⟩
        · cases hq : Ed.lt key l[r].frm with
          | false => rfl
          | true =>
            unfold cmpT at hr2
            rw [hhi r hr1 (Nat.le_refl _), hq] at hr2
            simp at hr2
        · have h5 : Ed.lt key l[r].frm = false ∧ Ed.lt l[r].frm key = false := by
            refine ⟨?_, hhi r hr1 (Nat.le_refl _)⟩
            cases hq : Ed.lt key l[r].frm with
            | false => rfl
            | true =>
              unfold cmpT at hr2
              rw [hhi r hr1 (Nat.le_refl _), hq] at hr2
              simp at hr2
          have h6 := valid_mono HV.out r (r + 1) hr1 h2 (by omega)
          cases hq : Ed.lt key l[r + 1].frm with
          | true => rfl
          | false =>
            have e1 := Ed.lt_or key l[r].frm
            have e2 : Op.bytesLess key.toList l[r].frm.toList = false := h5.1
            rw [e2, h5.2] at e1
            simp at e1
            have e3 : key = l[r].frm := bytes_ext (by rw [ByteArray.toList_eq, ByteArray.toList_eq] at e1; exact e1)
            rw [e3] at hq
            rw [h6] at hq; cases hq)
      clear hb3 hlo hhi hf hff hr2 k0
      go_wp2_with fail
      go_ret
      rw [HN.out]
      exact ⟨rfl, Hb3.out⟩
    | false =>
      have hnf : ¬ ∃ h : r < l.length, cmpT l[r].frm key = 0 := fun k => by have := hf.2 k; rw [hff] at this; cases this
      have hr0 : 0 < r := by
        rcases Nat.eq_zero_or_pos r with e | e
        · subst e
          exact absurd ⟨hsome, by unfold cmpT; rw [hhi 0 hsome (Nat.le_refl _), hfirst]; rfl⟩ hnf
        · exact e
      have HN := Lib.hid (show R = (r : Int) - 1 by
        rw [HR.out, show (r : Int) - 1 = ((r - 1 : Nat) : Int) by omega]
        have hr1l : r - 1 < l.length := by omega
        refine findI_eq HV.out ⟨hr1l, Ed.lt_asymm (hlo (r - 1) hr1l (by omega)), fun h2 => ?_⟩
        have e : r - 1 + 1 = r := by omega
        simp only [e] at h2 ⊢
        cases hq : Ed.lt key l[r].frm with
        | true => rfl
        | false => exact absurd ⟨h2, by unfold cmpT; rw [hhi r h2 (Nat.le_refl _), hq]; rfl⟩ hnf)
      clear hb3 hlo hhi hf hff hnf k0
      go_wp2_with fail
      go_ret
      rw [HN.out]
      refine ⟨?_, Hb3.out⟩
      show Ending.returned (Value.int .i64 (wrap64 ((r : Int) - 1))) = _
      have hl16 : l.length ≤ 16 := HV.out.few
      rw [show wrap64 ((r : Int) - 1) = (r : Int) - 1 by unfold wrap64; omega]
end Go.Proofs.Ytenbgfejonokdaa

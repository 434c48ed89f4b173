/- A state as bytes, walked. -/
import Derived.Test.YtcijhhnbhnaiaaaGreatEdEnc2
namespace Go.Proofs.YtcijhhnbhnaiaaaGreat
set_option linter.unusedSimpArgs false
set_option linter.unusedVariables false
set_option maxRecDepth 100000
open Go.RowKit

noncomputable def encRes (s : Ed.St) : ByteArray × Int := if Ed.validB s = true then (encSB s, 0) else (⟨#[]⟩, 2)
theorem two_cells {w : World} {t : TypeId} {a b : Value} : ∀ w1, w1 = w.alloc (.cells #[a, b] t (0, 0)) → Blk w1 w.heap.size t #[a, b] ∧ Below w.heap.size w w1 := fun w1 h => by
  rw [h]; exact ⟨Blk.alloc_new w _ _, (Below.refl _ _).alloc (Nat.le_refl _) _⟩
theorem three_cells {w : World} {t : TypeId} {a b c : Value} : ∀ w1, w1 = w.alloc (.cells #[a, b, c] t (0, 0)) → Blk w1 w.heap.size t #[a, b, c] ∧ Below w.heap.size w w1 := fun w1 h => by
  rw [h]; exact ⟨Blk.alloc_new w _ _, (Below.refl _ _).alloc (Nat.le_refl _) _⟩
theorem encS_head (log next : Int) (n : Nat) : pnB log ++ pnB next ++ pnB n = ⟨(Ed.pn log ++ (Ed.pn next ++ Ed.pn n)).toArray⟩ := by
  unfold pnB
  simp only [cat_l, List.append_assoc]
theorem RdT.at2 {w : World} {x : Option Addr} {n c : Nat} {l : List Ed.Tab} (h : RdT w (.slice x n c) l) (j : Nat) (hj : j < l.length) : ∃ b off tv, x = some ⟨b, off, none⟩ ∧ b < w.heap.size ∧ w.cell? ⟨b, off + j * 2, none⟩ = some (.string l[j].frm) ∧ w.cell? ⟨b, off + j * 2 + 1, none⟩ = some tv ∧ RdI w tv l[j].tabs := by
  obtain ⟨y, d, e, h⟩ := h
  injection e with e1 _ _
  obtain ⟨b, off, tv, h1, h2, h3, h4, h5⟩ := h j hj
  exact ⟨b, off, tv, by rw [e1, h1], h2, h3, h4, h5⟩
set_option maxHeartbeats 4000000 in
theorem encodeState_any (tv : Value) (s : Ed.St) (w : World) (h : RdT w tv s.l) (hf : Fits s.l) :
    Calls Tryz.prog 21 #[stV tv s.log s.next] w fun e w' => e = .returned (.tuple #[.string (encRes s).1, .int .i64 (encRes s).2]) ∧ Below w.heap.size w w' := by
  obtain ⟨w1, hw1⟩ : ∃ w1, w1 = w.alloc (.cells #[tv, .int .i64 s.log, .int .i64 s.next] 28 (0, 0)) := ⟨_, rfl⟩
  obtain ⟨kb, kbe⟩ := three_cells w1 hw1
  have HC := Lib.hid (check_any tv s w1 (h.below kbe) hf)
  have HRD := Lib.hid (h.below kbe)
  obtain ⟨tx, tc, htv, _⟩ := h
  obtain ⟨tn, htn⟩ : ∃ tn, tn = s.l.length := ⟨_, rfl⟩
  rw [← htn] at htv
  subst htv
  have HTN := Lib.hid htn
  have HW := Lib.hid hw1
  have KB := Lib.hid kb
  have HB1 := Lib.hid kbe
  unfold stV at HC ⊢
  rw [hw1] at HC
  obtain ⟨q, hq⟩ : ∃ q, q = w.heap.size := ⟨_, rfl⟩
  have HQ := Lib.hid hq
  obtain ⟨a0, a1, a2, _⟩ := blk3 kb
  rw [hw1] at a0 a1 a2
  clear htn hw1 kb kbe hq
  by_cases hv : Ed.Valid s
  case neg =>
    have e0 := Ed.validB_false hv
    have er : encRes s = (⟨#[]⟩, 2) := by unfold encRes; rw [e0]; rfl
    rw [er]
    rw [e0] at HC
    clear er e0 hv
    go_enter Tryz.func21, Tryz.ntmps21
    go_wp2_with fail
    refine HC.out.mono ?_
    rintro e w2 ⟨rfl, hb⟩
    rw [← HW.out] at hb
    have HB2 := Lib.hid (HB1.out.trans (hb.mono HB1.out.size))
    clear hb
    go_wp2_with fail
    go_ret2
    exact ⟨rfl, HB2.out⟩
  case pos =>
    have e0 := Ed.validB_true hv
    have er : encRes s = (encSB s, 0) := by unfold encRes; rw [e0]; rfl
    rw [er]
    rw [e0] at HC
    obtain ⟨l, log, next⟩ := s
    simp only at HC HRD HTN KB HW a0 a1 a2 ⊢
    have hlog1 := hv.log
    have hlog2 := hv.logn
    have hnext := hv.next
    have hfew := hv.few
    simp only at hlog1 hlog2 hnext hfew
    rw [← HTN.out] at hfew
    have hl1 : log < 9223372036854775808 := by omega
    have hl2 : next < 9223372036854775808 := by omega
    have HF := Lib.hid (valid_tabFit hv)
    have hs1 := pnB_size hl1
    have hs2 := pnB_size hl2
    have hs3 := pnB_size (n := (tn : Int)) (by omega)
    have HP := Lib.hid (fun (W : World) (n : Int) (hn : n = log ∨ n = next ∨ n = tn) => putP_any n W (by rcases hn with rfl | rfl | rfl <;> omega) (by rcases hn with rfl | rfl | rfl <;> omega))
    clear er e0 hv
    go_enter Tryz.func21, Tryz.ntmps21
    go_wp2_with fail
    refine HC.out.mono ?_
    rintro e w2 ⟨rfl, hb⟩
    rw [← HW.out] at hb
    have HB2 := Lib.hid (HB1.out.trans (hb.mono HB1.out.size))
    have KB2 := Lib.hid (KB.out.below hb)
    have HRD2 := Lib.hid (HRD.out.below hb)
    rw [← HQ.out] at KB2 ⊢
    have hql : q < w2.heap.size := KB2.out.lt
    have g0 : ∀ y : Ext w2, y.wd.cell? ⟨q, 0, none⟩ = some (.slice tx tn tc) := fun y => (y.le.cell (p := ⟨q, 0, none⟩) hql).trans (KB2.out.cell 0)
    have g1 : ∀ y : Ext w2, y.wd.cell? ⟨q, 1, none⟩ = some (.int .i64 log) := fun y => (y.le.cell (p := ⟨q, 1, none⟩) hql).trans (KB2.out.cell 1)
    have g2 : ∀ y : Ext w2, y.wd.cell? ⟨q, 2, none⟩ = some (.int .i64 next) := fun y => (y.le.cell (p := ⟨q, 2, none⟩) hql).trans (KB2.out.cell 2)
    have HX := Lib.hid (fun (y : Ext w2) (n : Int) (hn : n = log ∨ n = next ∨ n = tn) => HP.out y.wd n hn)
    clear hb a0 a1 a2
    go_wp2_with fail
    refine wp_region_ext (by kernel_rfl) (by kernel_rfl) fun K hK => ?_
    repeat (go_big_quiet_step ((go_at_call 35; exact Calls.ext_of (HX.out _ _ (by first | exact .inl rfl | exact .inr (.inl rfl) | exact .inr (.inr rfl))))))
    refine wpQuiet_nil (hK _ fun y => ?_)
    clear hK K
    obtain ⟨w3, hw3⟩ : ∃ w3, w3 = y.wd := ⟨_, rfl⟩
    have hb3 : Below w2.heap.size w2 w3 := by rw [hw3]; exact y.le
    rw [← hw3]
    have HB3 := Lib.hid (HB2.out.trans (hb3.mono HB2.out.size))
    have KB3 := Lib.hid (KB2.out.below hb3)
    have HRD3 := Lib.hid (HRD2.out.below hb3)
    obtain ⟨T0, hT0⟩ : ∃ T0, T0 = pnB log ++ pnB next ++ pnB (tn : Int) := ⟨_, rfl⟩
    try simp only
    rw [← hT0]
    have HT0 := Lib.hid hT0
    obtain ⟨a0, a1, a2, _⟩ := blk3 KB3.out
    clear g0 g1 g2 hw3 hb3 hT0
    go_wp2_with fail
    go_loopw [4, 6, 25] (fun v4 _ v25 wr => ∃ (k : Nat) (T : ByteArray), v25 = .int .i64 k ∧ k ≤ tn ∧ v4 = .string T ∧ T = ⟨((Ed.pn log ++ (Ed.pn next ++ Ed.pn tn)) ++ (l.take k).flatMap Ed.encB).toArray⟩ ∧ Below w.heap.size w wr ∧ RdT wr (.slice tx tn tc) l) (fun _ _ v25 _ => tn - (intOf v25).toNat)
    case atStart => exact ⟨0, T0, rfl, Nat.zero_le _, rfl, by rw [HT0.out, encS_head]; simp, HB3.out, HRD3.out⟩
    case round =>
      obtain ⟨k, T, rfl, hk, rfl, hT, hbe, hrd⟩ := hrel
      have HT := Lib.hid hT
      have Hbe := Lib.hid hbe
      have Hrd := Lib.hid hrd
      have hTs : T.size ≤ 27 + 20000 * k := by
        rw [hT, size_l, List.length_append, List.length_append, List.length_append]
        have h1 := encbs_len (l.take k) fun n hn => HF.out n (List.mem_of_mem_take hn)
        have h2 := pn_len (n := (tn : Int)) (by omega)
        have h3 := pn_len hl1
        have h4 := pn_len hl2
        rw [List.length_take] at h1
        omega
      clear hT hbe hrd a0 a1 a2
      by_cases hlt : k < tn
      · have hkl : k < l.length := by rw [← HTN.out]; exact hlt
        obtain ⟨tb, toff, tv2, htx, htb, c0, c1, hri⟩ := (Hrd.out.at2 k hkl)
        subst htx
        have hsucc := encbs_succ l k hkl (Ed.pn log ++ (Ed.pn next ++ Ed.pn tn))
        rw [← HT.out] at hsucc
        have hfk := HF.out l[k] (List.getElem_mem hkl)
        obtain ⟨t, ht⟩ : ∃ t, t = l[k] := ⟨_, rfl⟩
        rw [← ht] at c0 hsucc hfk hri
        have hcat := encB_cat t
        have h6 := hfk.frm
        have h7 := hfk.tabs
        have hl4 := encL_len t.tabs (by omega) hfk.each
        have hl5 := encT_len t.frm (by omega)
        obtain ⟨fx, fc, hfv, _⟩ := hri.form
        subst hfv
        have Hri := Lib.hid hri
        have Hfk := Lib.hid hfk
        have Hsucc := Lib.hid hsucc
        have Hcat := Lib.hid hcat
        obtain ⟨frm, tabs⟩ := t
        simp only at c0 c1 hl4 hl5 h6 h7 Hcat Hfk Hri
        have hk0 : (0 : Int) ≤ k := by omega
        have hkm : (k : Int) < tn := by omega
        have Hlt := Lib.hid hlt
        obtain ⟨fn, hfn⟩ : ∃ fn, fn = tabs.length := ⟨_, rfl⟩
        rw [← hfn] at c1 Hri h7 hl4
        have Hfn := Lib.hid hfn
        obtain ⟨w4, hw4⟩ : ∃ w4, w4 = wr.alloc (.cells #[.string frm, .slice fx fn fc] 65 (0, 0)) := ⟨_, rfl⟩
        obtain ⟨kb, kbe⟩ := two_cells w4 hw4
        obtain ⟨q2, hq2⟩ : ∃ q2, q2 = wr.heap.size := ⟨_, rfl⟩
        have hql2 : q2 < w4.heap.size := by rw [hq2]; exact kb.lt
        have g0 : ∀ y : Ext w4, y.wd.cell? ⟨q2, 0, none⟩ = some (.string frm) := fun y => (y.le.cell (p := ⟨q2, 0, none⟩) hql2).trans (by rw [hq2]; exact kb.cell 0)
        have g1 : ∀ y : Ext w4, y.wd.cell? ⟨q2, 1, none⟩ = some (.slice fx fn fc) := fun y => (y.le.cell (p := ⟨q2, 1, none⟩) hql2).trans (by rw [hq2]; exact kb.cell 1)
        have Hkbe := Lib.hid kbe
        have HY := Lib.hid (fun (y : Ext w4) => encL_any (.slice fx fn fc) tabs y.wd ((Hri.out.below kbe).below y.le) (by rw [← Hfn.out]; omega) Hfk.out.each)
        have HZ := Lib.hid (fun (y : Ext w4) => putText_any frm y.wd (by omega))
        have HW4 := Lib.hid hw4
        have HQ2 := Lib.hid hq2
        clear ht hsucc hcat hfk hri hfn hw4 hq2 kb kbe
        go_wp2_with fail
        rw [← HW4.out, ← HQ2.out]
        refine wp_region_ext (by kernel_rfl) (by kernel_rfl) fun K hK => ?_
        repeat (go_big_quiet_step (first
          | (go_at_call 36; exact Calls.ext_of (HY.out _))
          | (go_at_call 37; exact Calls.ext_of (HZ.out _))))
        refine wpQuiet_nil (hK _ fun y => ?_)
        clear hK K
        have Hy := Lib.hid (Hbe.out.trans ((Hkbe.out.trans (y.le.mono Hkbe.out.size)).mono Hbe.out.size))
        have Hry := Lib.hid ((Hrd.out.below Hkbe.out).below y.le)
        clear g0 g1 c0 c1
        go_wp2_with fail
        go_roundw
        case rel => exact ⟨k + 1, _, by go_num, by have := Hlt.out; omega, rfl, by rw [Hcat.out, Hsucc.out], Hy.out, Hry.out⟩
        case measure => simp [intOf]; omega
      · obtain rfl : k = tn := by omega
        have HFN := Lib.hid (show T = encSB ⟨l, log, next⟩ from by
          rw [HT.out]
          unfold encSB Ed.encS
          simp only [HTN.out, List.take_length, List.append_assoc])
        go_wp2_with fail
        go_ret2
        rw [HFN.out]
        exact ⟨rfl, Hbe.out⟩
end Go.Proofs.YtcijhhnbhnaiaaaGreat

/- Is a state one, by the document? Walked. -/
import Derived.Test.YtenbgfejonokdaaEdCheck
import Derived.Test.YtenbgfejonokdaaRegion
import Derived.Test.YtenbgfejonokdaaEdIns
namespace Go.Proofs.Ytenbgfejonokdaa
set_option linter.unusedSimpArgs false
set_option linter.unusedVariables false
set_option maxRecDepth 100000
open Go.RowKit

set_option maxHeartbeats 8000000 in
theorem refCheck_any (tv : Value) (s : Ed.St) (w : World) (h : RdT w tv s.l) (hf : Fits s.l) :
    Calls Try.prog 51 #[stV tv s.log s.next] w fun e w' => e = .returned (.bool (Ed.validB s)) ∧ Below w.heap.size w w' := by
  obtain ⟨l, log, next⟩ := s
  obtain ⟨hl, hfe⟩ := hf
  simp only at h hl hfe ⊢
  obtain ⟨w1, hw1⟩ : ∃ w1, w1 = w.alloc (.cells #[tv, .int .i64 log, .int .i64 next] 67 (0, 0)) := ⟨_, rfl⟩
  have hb1 : Below w.heap.size w w1 := by rw [hw1]; exact (Below.refl _ _).alloc (Nat.le_refl _) _
  have B1 : Blk w1 w.heap.size 67 #[tv, .int .i64 log, .int .i64 next] := by rw [hw1]; exact Blk.alloc_new _ _ _
  obtain ⟨x, c, rfl, hel⟩ := h.below hb1
  have Hel := Lib.hid hel
  have Hb1 := Lib.hid hb1
  have HW1 := Lib.hid hw1
  have HB1 := Lib.hid B1
  have Hfe := Lib.hid hfe
  unfold maxLen at hl
  clear h hel hb1 B1 hfe hw1
  unfold stV
  by_cases hne : 0 < l.length
  case neg =>
    have hB : (l.length : Int) < 1 := by omega
    go_enter Try.func51, Try.ntmps51
    go_wp2_with fail
    rw [← HW1.out]
    go_ret
    rw [Ed.validB_false fun h => hne h.some]
    exact ⟨rfl, Hb1.out⟩
  case pos =>
    obtain ⟨b, off, tv, rfl, hb, c0, c1, _⟩ := Hel.out 0 hne
    have q0 : w1.cell? ⟨b, off, none⟩ = some (.string l[0].frm) := by rw [Nat.zero_mul, Nat.add_zero] at c0; exact c0
    obtain ⟨f0, hf0⟩ : ∃ f0, f0 = l[0].frm := ⟨_, rfl⟩
    rw [← hf0] at q0
    have Hf0 := Lib.hid hf0
    rw [HW1.out] at q0
    have hB : ¬ (l.length : Int) < 1 := by omega
    clear c0 c1 hf0
    by_cases hok : f0.size = 0 ∧ l.length ≤ 16 ∧ 1 ≤ log ∧ log < next ∧ next ≤ 2147483647
    case neg =>
      have HN := Lib.hid (Ed.validB_false (s := ⟨l, log, next⟩) fun h => hok (by rw [Hf0.out]; exact ⟨h.first, h.few, h.log, h.logn, h.next⟩))
      go_enter Try.func51, Try.ntmps51
      go_wp2_with fail
      all_goals first
        | (rw [← HW1.out]
           go_ret
           rw [HN.out]
           exact ⟨rfl, Hb1.out⟩)
        | (exfalso
           refine hok ⟨?_, by omega, by omega, by omega, by omega⟩
           have e : f0.toList = [] := by
             have h9 := ‹_ ∧ (!f0.toList.isEmpty) = false›.2
             simpa using h9
           rw [ByteArray.toList_eq] at e
           have : f0.data.toList.length = 0 := by rw [e]; rfl
           simpa using this)
    case pos =>
      obtain ⟨h1, h2, h3, h4, h5⟩ := hok
      have h6 : f0.toList = [] := by rw [bytes_empty h1, ByteArray.toList_eq]
      have h7 : ((l.length : Int)) ≤ 16 := by omega
      go_enter Try.func51, Try.ntmps51
      go_wp2_with fail
      rw [← HW1.out]
      clear q0 hB
      go_loopw [3, 4, 5] (fun v3 _ _ wr => ∃ k : Nat, v3 = .int .i64 k ∧ k ≤ l.length ∧ (∀ (j : Nat) (hj : j < l.length), j < k → l[j].frm.size ≤ 64 ∧ (∀ h : 0 < j, Ed.lt l[j - 1].frm l[j].frm = true) ∧ Ed.Rising l[j].tabs next ∧ l[j].tabs.length ≤ 128) ∧ Below w1.heap.size w1 wr) (fun v3 _ _ _ => l.length - (intOf v3).toNat)
      case atStart => exact ⟨0, rfl, Nat.zero_le _, fun j _ hj => absurd hj (by omega), Below.refl _ _⟩
      case round =>
        obtain ⟨k, rfl, hk, hsm, hbe⟩ := hrel
        have Hsm := Lib.hid hsm
        have Hbe := Lib.hid hbe
        clear hsm hbe
        by_cases hlt : k < l.length
        · obtain ⟨b', off', tk, e, _, c0, c1, hr⟩ := Hel.out k hlt
          cases e
          have hbr : b < wr.heap.size := by have := Hbe.out.size; omega
          have d0 := (Hbe.out.cell (p := ⟨b, _, none⟩) hb).trans c0
          have d1 := (Hbe.out.cell (p := ⟨b, _, none⟩) hb).trans c1
          have hr2 := hr.below Hbe.out
          have hfk := Hfe.out k hlt
          obtain ⟨f, hf⟩ : ∃ f, f = l[k].frm := ⟨_, rfl⟩
          obtain ⟨ts, hts⟩ : ∃ ts, ts = l[k].tabs := ⟨_, rfl⟩
          rw [← hf] at d0 hfk
          rw [← hts] at hr2 hfk hr
          have Hf := Lib.hid hf
          have Hts := Lib.hid hts
          obtain ⟨n1, n2⟩ := hfk
          unfold maxLen at n1 n2
          have q0 := (HB1.out.below Hbe.out).cell 0
          simp at q0
          have HTR := Lib.hid hr
          obtain ⟨y, yc, rfl, _⟩ := hr2.form
          obtain ⟨tn, htn⟩ : ∃ tn, tn = ts.length := ⟨_, rfl⟩
          rw [← htn] at d1 HTR n2
          have HTN := Lib.hid htn
          have hbl : b < wr.heap.size := by have := Hbe.out.size; omega
          have hwl : w.heap.size < wr.heap.size := by have := Hbe.out.size; have := HB1.out.lt; omega
          have hpv : ∀ h : 0 < k, wr.cell? ⟨b, off + (k - 1) * 2, none⟩ = some (.string l[k - 1].frm) := fun h => by
            obtain ⟨b', off', tk, e, _, c0, _, _⟩ := Hel.out (k - 1) (by omega)
            cases e
            exact (Hbe.out.cell (p := ⟨b, _, none⟩) hb).trans c0
          have Hpv := Lib.hid hpv
          clear c0 c1 hr hr2 hf hts hpv htn
          go_wp2_with fail
          have Q0 := Lib.hid q0
          clear d0 d1 q0
          obtain ⟨W2, hW2⟩ : ∃ W2, W2 = wr.alloc (.cells #[.string f, .slice y tn yc] 70 (0, 0)) := ⟨_, rfl⟩
          have hb2 : Below wr.heap.size wr W2 := by rw [hW2]; exact (Below.refl _ _).alloc (Nat.le_refl _) _
          have B2 : Blk W2 wr.heap.size 70 #[.string f, .slice y tn yc] := by rw [hW2]; exact Blk.alloc_new _ _ _
          rw [← hW2]
          have z0 := (hb2.cell (p := ⟨w.heap.size, 0, none⟩) hwl).trans Q0.out
          have t0 := B2.cell 0
          have t1 := B2.cell 1
          simp at t0 t1
          have Hb2 := Lib.hid (Hbe.out.trans (hb2.mono Hbe.out.size))
          have B2' := Lib.hid B2
          clear hW2 B2
          have Hno := Lib.hid (fun (hn : ¬ (f.size ≤ 64 ∧ (∀ h : 0 < k, Ed.lt l[k - 1].frm f = true) ∧ Ed.Rising ts next ∧ ts.length ≤ 128)) => Ed.validB_false (s := ⟨l, log, next⟩) fun h => hn (by rw [Hf.out, Hts.out]; exact h.each k hlt))
          have Hyes := Lib.hid (fun (hn : f.size ≤ 64 ∧ (∀ h : 0 < k, Ed.lt l[k - 1].frm f = true) ∧ Ed.Rising ts next ∧ ts.length ≤ 128) (j : Nat) (hj : j < l.length) (hjk : j < k + 1) => show l[j].frm.size ≤ 64 ∧ (∀ h : 0 < j, Ed.lt l[j - 1].frm l[j].frm = true) ∧ Ed.Rising l[j].tabs next ∧ l[j].tabs.length ≤ 128 from by
            by_cases e : j < k
            · exact Hsm.out j hj e
            · obtain rfl : j = k := by omega
              rw [Hf.out, Hts.out] at hn; exact hn)
          have Hnot := Lib.hid (fun (hn : ¬ Ed.Rising ts next) => Hno.out fun h => hn h.2.2.1)
          clear h2
          by_cases h64 : f.size ≤ 64
          case neg =>
            have g64 : decide ((64 : Int) < f.size) = true := decide_eq_true (by omega)
            have g64' : decide (64 < f.size) = true := decide_eq_true (by omega)
            have HN := Lib.hid (Hno.out fun h => h64 h.1)
            clear h64 t1 z0
            go_quiet (fail)
            go_wp2_with fail
            go_ret
            rw [HN.out]
            exact ⟨rfl, below_drewN (Hb1.out.trans (Hb2.out.mono Hb1.out.size)) _⟩
          case pos =>
            have g64 : decide ((64 : Int) < f.size) = false := decide_eq_false (by omega)
            have g64' : decide (64 < f.size) = false := decide_eq_false (by omega)
            by_cases hpos : 0 < k
            case pos =>
              have p0 := (hb2.cell (p := ⟨b, _, none⟩) hbl).trans (Hpv.out hpos)
              obtain ⟨pf, hpf⟩ : ∃ pf, pf = l[k - 1].frm := ⟨_, rfl⟩
              rw [← hpf] at p0
              have Hpf := Lib.hid hpf
              clear hb2 hpf
              have hk0 : (0 : Int) < k := by omega
              obtain ⟨k', rfl⟩ : ∃ k', k = k' + 1 := ⟨k - 1, by omega⟩
              simp only [Nat.add_sub_cancel] at p0
              have hk1 : k' < l.length := by omega
              have hk2 : (k' : Int) < l.length := by omega
              have hk3 : (0 : Int) ≤ k' := by omega
              have hw1 : IntKind.i64.wrap (k' : Int) = k' := by rw [IntKind.wrap_i64]; omega
              have hor := Ed.lt_or f pf
              cases hlt2 : Ed.lt pf f with
              | false =>
                have h11 : Op.bytesLess pf.toList f.toList = false := hlt2
                have HN := Lib.hid (Hno.out fun h => by have h2 := h.2.1 (by omega); rw [← Hpf.out, hlt2] at h2; cases h2)
                clear hlt2 Hno Hyes t1 Hnot hor
                go_quiet (fail)
                go_wp2_with fail
                go_ret
                rw [HN.out]
                exact ⟨rfl, below_drewN (Hb1.out.trans (Hb2.out.mono Hb1.out.size)) _⟩
              | true =>
                have h11 : Op.bytesLess pf.toList f.toList = true := hlt2
                clear hor
                have Hlt2 := Lib.hid hlt2
                clear hlt2
                by_cases h128 : tn ≤ 128
                case neg =>
                  have g : decide ((128 : Int) < tn) = true := decide_eq_true (by omega)
                  have g' : decide (128 < tn) = true := decide_eq_true (by omega)
                  have HN := Lib.hid (Hno.out fun h => h128 (by rw [HTN.out]; exact h.2.2.2))
                  clear Hno Hyes h128 Hnot
                  go_quiet (fail)
                  go_wp2_with fail
                  go_ret
                  rw [HN.out]
                  exact ⟨rfl, below_drewN (Hb1.out.trans (Hb2.out.mono Hb1.out.size)) _⟩
                case pos =>
                  have g : decide ((128 : Int) < tn) = false := decide_eq_false (by omega)
                  have g' : decide (128 < tn) = false := decide_eq_false (by omega)
                  have Hyes2 := Lib.hid (fun hR : Ed.Rising ts next => Hyes.out ⟨h64, fun _ => by rw [← Hpf.out]; exact Hlt2.out, hR, by rw [← HTN.out]; exact h128⟩)
                  clear Hno Hyes
                  go_quiet (fail)
                  go_wp2_with fail
                  obtain ⟨W3, hW3⟩ : ∃ W3, W3 = W2.drewN nq := ⟨_, rfl⟩
                  rw [← hW3]
                  have hb3 : Below W2.heap.size W2 W3 := by rw [hW3]; exact below_drewN (Below.refl _ _) _
                  have Hb3 := Lib.hid (Hb2.out.trans (hb3.mono Hb2.out.size))
                  have BT := Lib.hid (B2'.out.below hb3)
                  clear hW3 hb3 z0 t0 t1
                  try clear p0
                  try clear h11
                  go_loopw [5] (fun v5 wi => ∃ i : Nat, v5 = .int .i64 i ∧ i ≤ tn ∧ (∀ (j : Nat) (hj : j < ts.length), j < i → 1 ≤ ts[j] ∧ ts[j] < next ∧ (∀ h : 0 < j, ts[j - 1] < ts[j])) ∧ Below W3.heap.size W3 wi) (fun v5 _ => tn - (intOf v5).toNat)
                  case atStart => exact ⟨0, rfl, Nat.zero_le _, fun j _ hj => absurd hj (by omega), Below.refl _ _⟩
                  case round =>
                    obtain ⟨i, rfl, hi, hri, hbi⟩ := hrel
                    have Hri := Lib.hid hri
                    have Hbi := Lib.hid (Hb3.out.trans (hbi.mono Hb3.out.size))
                    have HbiS := Lib.hid hbi
                    have y0 := (BT.out.below hbi).cell 0
                    have y1 := (BT.out.below hbi).cell 1
                    have q0 := (HB1.out.below Hbi.out).cell 0
                    have q2 := (HB1.out.below Hbi.out).cell 2
                    simp at y0 y1 q0 q2
                    have HTR2 := Lib.hid (HTR.out.below Hbi.out)
                    clear hri hbi
                    by_cases hlt2 : i < tn
                    · have hil : i < ts.length := by rw [← HTN.out]; exact hlt2
                      obtain ⟨y', c', ey, hel2⟩ := HTR2.out.form
                      rw [← HTN.out] at ey
                      injection ey with ey1 ey2 ey3
                      subst ey1 ey3
                      obtain ⟨rb, roff, rfl, _, e0⟩ := hel2 i hil
                      obtain ⟨n, hn⟩ : ∃ n, n = ts[i] := ⟨_, rfl⟩
                      rw [← hn] at e0
                      have Hn := Lib.hid hn
                      have Hprev := Lib.hid (fun h : 0 < i => hel2 (i - 1) (by omega))
                      clear hn hel2
                      by_cases a1 : n < 1
                      · have HN := Lib.hid (Hnot.out fun h => by have := (h i hil).1; rw [← Hn.out] at this; omega)
                        have g1 := decide_eq_true a1
                        go_wp2_with fail
                        go_quiet (fail)
                        go_wp2_with fail
                        go_ret
                        rw [HN.out]
                        exact ⟨rfl, below_drewN (Hb1.out.trans (Hbi.out.mono Hb1.out.size)) _⟩
                      have g1 := decide_eq_false a1
                      by_cases a2 : next ≤ n
                      · have HN := Lib.hid (Hnot.out fun h => by have := (h i hil).2.1; rw [← Hn.out] at this; omega)
                        have g2 := decide_eq_true a2
                        go_wp2_with fail
                        go_quiet (fail)
                        go_wp2_with fail
                        go_ret
                        rw [HN.out]
                        exact ⟨rfl, below_drewN (Hb1.out.trans (Hbi.out.mono Hb1.out.size)) _⟩
                      have g2 := decide_eq_false a2
                      by_cases a3 : 0 < i
                      · obtain ⟨rb', roff', e, _, e1⟩ := Hprev.out a3
                        cases e
                        obtain ⟨m, hm⟩ : ∃ m, m = ts[i - 1] := ⟨_, rfl⟩
                        rw [← hm] at e1
                        have Hm := Lib.hid hm
                        clear hm
                        have a3' : (0 : Int) < i := by omega
                        have g3 := decide_eq_true a3'
                        obtain ⟨i', rfl⟩ : ∃ i', i = i' + 1 := ⟨i - 1, by omega⟩
                        simp only [Nat.add_sub_cancel] at e1 Hm
                        by_cases a4 : n ≤ m
                        · have HN := Lib.hid (Hnot.out fun h => by have := (h (i' + 1) hil).2.2 a3; simp only [Nat.add_sub_cancel] at this; rw [← Hn.out, ← Hm.out] at this; omega)
                          have g4 := decide_eq_true a4
                          go_wp2_with fail
                          go_quiet (fail)
                          go_wp2_with fail
                          go_ret
                          rw [HN.out]
                          exact ⟨rfl, below_drewN (Hb1.out.trans (Hbi.out.mono Hb1.out.size)) _⟩
                        have g4 := decide_eq_false a4
                        go_wp2_with fail
                        go_quiet (fail)
                        go_wp2_with fail
                        refine ⟨?_, ?measure⟩
                        (repeat apply Exists.intro)
                        refine ⟨?rel, rfl⟩
                        case rel => exact ⟨i' + 2, by go_num, by omega, fun j hj hji => (by
                          by_cases e : j < i' + 1
                          · exact Hri.out j hj e
                          · obtain rfl : j = i' + 1 := by omega
                            rw [← Hn.out]
                            exact ⟨by omega, by omega, fun _ => by
                              simp only [Nat.add_sub_cancel]
                              rw [← Hm.out]
                              omega⟩), below_drewN HbiS.out _⟩
                        case measure => simp [intOf]; omega
                      · have a3' : ¬ (0 : Int) < i := by omega
                        have g3 := decide_eq_false a3'
                        go_wp2_with fail
                        go_quiet (fail)
                        go_wp2_with fail
                        refine ⟨?_, ?measure⟩
                        (repeat apply Exists.intro)
                        refine ⟨?rel, rfl⟩
                        case rel => exact ⟨i + 1, by go_num, by omega, fun j hj hji => (by
                          obtain rfl : j = i := by omega
                          rw [← Hn.out]
                          exact ⟨by omega, by omega, fun h => absurd h a3⟩), below_drewN HbiS.out _⟩
                        case measure => simp [intOf]; omega
                    · obtain rfl : i = tn := by omega
                      have HY := Lib.hid (Hyes2.out fun j hj => Hri.out j hj (by rw [HTN.out]; exact hj))
                      go_wp2_with fail
                      go_roundw
                      case rel =>
                        refine ⟨_, ?_, ?_, HY.out, Hbi.out⟩
                        · go_num
                        · omega
                      case measure => simp [intOf]; omega
            case neg =>
              have hz2 : ¬ (0 : Int) < k := by omega
              have gk := decide_eq_false hz2
              by_cases h128 : tn ≤ 128
              case neg =>
                have g : decide ((128 : Int) < tn) = true := decide_eq_true (by omega)
                have g' : decide (128 < tn) = true := decide_eq_true (by omega)
                have HN := Lib.hid (Hno.out fun h => h128 (by rw [HTN.out]; exact h.2.2.2))
                clear Hno Hyes h128 Hnot hb2
                go_quiet (fail)
                go_wp2_with fail
                go_ret
                rw [HN.out]
                exact ⟨rfl, below_drewN (Hb1.out.trans (Hb2.out.mono Hb1.out.size)) _⟩
              case pos =>
                have g : decide ((128 : Int) < tn) = false := decide_eq_false (by omega)
                have g' : decide (128 < tn) = false := decide_eq_false (by omega)
                have Hyes2 := Lib.hid (fun hR : Ed.Rising ts next => Hyes.out ⟨h64, fun h => absurd h hpos, hR, by rw [← HTN.out]; exact h128⟩)
                clear Hno Hyes hb2
                go_quiet (fail)
                go_wp2_with fail
                obtain ⟨W3, hW3⟩ : ∃ W3, W3 = W2.drewN nq := ⟨_, rfl⟩
                rw [← hW3]
                have hb3 : Below W2.heap.size W2 W3 := by rw [hW3]; exact below_drewN (Below.refl _ _) _
                have Hb3 := Lib.hid (Hb2.out.trans (hb3.mono Hb2.out.size))
                have BT := Lib.hid (B2'.out.below hb3)
                clear hW3 hb3 z0 t0 t1
                try clear p0
                try clear h11
                go_loopw [5] (fun v5 wi => ∃ i : Nat, v5 = .int .i64 i ∧ i ≤ tn ∧ (∀ (j : Nat) (hj : j < ts.length), j < i → 1 ≤ ts[j] ∧ ts[j] < next ∧ (∀ h : 0 < j, ts[j - 1] < ts[j])) ∧ Below W3.heap.size W3 wi) (fun v5 _ => tn - (intOf v5).toNat)
                case atStart => exact ⟨0, rfl, Nat.zero_le _, fun j _ hj => absurd hj (by omega), Below.refl _ _⟩
                case round =>
                  obtain ⟨i, rfl, hi, hri, hbi⟩ := hrel
                  have Hri := Lib.hid hri
                  have Hbi := Lib.hid (Hb3.out.trans (hbi.mono Hb3.out.size))
                  have HbiS := Lib.hid hbi
                  have y0 := (BT.out.below hbi).cell 0
                  have y1 := (BT.out.below hbi).cell 1
                  have q0 := (HB1.out.below Hbi.out).cell 0
                  have q2 := (HB1.out.below Hbi.out).cell 2
                  simp at y0 y1 q0 q2
                  have HTR2 := Lib.hid (HTR.out.below Hbi.out)
                  clear hri hbi
                  by_cases hlt2 : i < tn
                  · have hil : i < ts.length := by rw [← HTN.out]; exact hlt2
                    obtain ⟨y', c', ey, hel2⟩ := HTR2.out.form
                    rw [← HTN.out] at ey
                    injection ey with ey1 ey2 ey3
                    subst ey1 ey3
                    obtain ⟨rb, roff, rfl, _, e0⟩ := hel2 i hil
                    obtain ⟨n, hn⟩ : ∃ n, n = ts[i] := ⟨_, rfl⟩
                    rw [← hn] at e0
                    have Hn := Lib.hid hn
                    have Hprev := Lib.hid (fun h : 0 < i => hel2 (i - 1) (by omega))
                    clear hn hel2
                    by_cases a1 : n < 1
                    · have HN := Lib.hid (Hnot.out fun h => by have := (h i hil).1; rw [← Hn.out] at this; omega)
                      have g1 := decide_eq_true a1
                      go_wp2_with fail
                      go_quiet (fail)
                      go_wp2_with fail
                      go_ret
                      rw [HN.out]
                      exact ⟨rfl, below_drewN (Hb1.out.trans (Hbi.out.mono Hb1.out.size)) _⟩
                    have g1 := decide_eq_false a1
                    by_cases a2 : next ≤ n
                    · have HN := Lib.hid (Hnot.out fun h => by have := (h i hil).2.1; rw [← Hn.out] at this; omega)
                      have g2 := decide_eq_true a2
                      go_wp2_with fail
                      go_quiet (fail)
                      go_wp2_with fail
                      go_ret
                      rw [HN.out]
                      exact ⟨rfl, below_drewN (Hb1.out.trans (Hbi.out.mono Hb1.out.size)) _⟩
                    have g2 := decide_eq_false a2
                    by_cases a3 : 0 < i
                    · obtain ⟨rb', roff', e, _, e1⟩ := Hprev.out a3
                      cases e
                      obtain ⟨m, hm⟩ : ∃ m, m = ts[i - 1] := ⟨_, rfl⟩
                      rw [← hm] at e1
                      have Hm := Lib.hid hm
                      clear hm
                      have a3' : (0 : Int) < i := by omega
                      have g3 := decide_eq_true a3'
                      obtain ⟨i', rfl⟩ : ∃ i', i = i' + 1 := ⟨i - 1, by omega⟩
                      simp only [Nat.add_sub_cancel] at e1 Hm
                      by_cases a4 : n ≤ m
                      · have HN := Lib.hid (Hnot.out fun h => by have := (h (i' + 1) hil).2.2 a3; simp only [Nat.add_sub_cancel] at this; rw [← Hn.out, ← Hm.out] at this; omega)
                        have g4 := decide_eq_true a4
                        go_wp2_with fail
                        go_quiet (fail)
                        go_wp2_with fail
                        go_ret
                        rw [HN.out]
                        exact ⟨rfl, below_drewN (Hb1.out.trans (Hbi.out.mono Hb1.out.size)) _⟩
                      have g4 := decide_eq_false a4
                      go_wp2_with fail
                      go_quiet (fail)
                      go_wp2_with fail
                      go_roundw
                      case rel => exact ⟨i' + 2, by go_num, by omega, fun j hj hji => (by
                        by_cases e : j < i' + 1
                        · exact Hri.out j hj e
                        · obtain rfl : j = i' + 1 := by omega
                          rw [← Hn.out]
                          exact ⟨by omega, by omega, fun _ => by
                            simp only [Nat.add_sub_cancel]
                            rw [← Hm.out]
                            omega⟩), below_drewN HbiS.out _⟩
                      case measure => simp [intOf]; omega
                    · have a3' : ¬ (0 : Int) < i := by omega
                      have g3 := decide_eq_false a3'
                      go_wp2_with fail
                      go_quiet (fail)
                      go_wp2_with fail
                      go_roundw
                      case rel => exact ⟨i + 1, by go_num, by omega, fun j hj hji => (by
                        obtain rfl : j = i := by omega
                        rw [← Hn.out]
                        exact ⟨by omega, by omega, fun h => absurd h a3⟩), below_drewN HbiS.out _⟩
                      case measure => simp [intOf]; omega
                  · obtain rfl : i = tn := by omega
                    have HY := Lib.hid (Hyes2.out fun j hj => Hri.out j hj (by rw [HTN.out]; exact hj))
                    go_wp2_with fail
                    go_roundw
                    case rel =>
                      refine ⟨_, ?_, ?_, HY.out, Hbi.out⟩
                      · go_num
                      · omega
                    case measure => simp [intOf]; omega
        · have hge : ¬ (k : Int) < l.length := by omega
          obtain rfl : k = l.length := by omega
          have HY := Lib.hid (Ed.validB_true (s := ⟨l, log, next⟩) ⟨hne, h2, by rw [← Hf0.out]; exact h1, h3, h4, h5, fun j hj => Hsm.out j hj hj⟩)
          have q0 := (HB1.out.below Hbe.out).cell 0
          simp at q0
          go_wp2_with fail
          go_ret
          rw [HY.out]
          exact ⟨rfl, Hb1.out.trans (Hbe.out.mono Hb1.out.size)⟩
end Go.Proofs.Ytenbgfejonokdaa

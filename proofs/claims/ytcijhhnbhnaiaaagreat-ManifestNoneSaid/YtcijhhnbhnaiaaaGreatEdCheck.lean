/- Is a state one? Walked, by the program and by the document. -/
import Derived.Test.YtcijhhnbhnaiaaaGreatEdMem
namespace Go.Proofs.YtcijhhnbhnaiaaaGreat
set_option linter.unusedSimpArgs false
set_option linter.unusedVariables false
set_option maxRecDepth 100000
open Go.RowKit

set_option maxHeartbeats 2000000 in
theorem check_any (tv : Value) (s : Ed.St) (w : World) (h : RdT w tv s.l) (hf : Fits s.l) :
    Calls Tryz.prog 29 #[stV tv s.log s.next] w fun e w' => e = .returned (.bool (Ed.validB s)) ∧ Below w.heap.size w w' := by
  obtain ⟨l, log, next⟩ := s
  obtain ⟨hl, hfe⟩ := hf
  simp only at h hl hfe ⊢
  obtain ⟨w1, hw1⟩ : ∃ w1, w1 = w.alloc (.cells #[tv, .int .i64 log, .int .i64 next] 28 (0, 0)) := ⟨_, rfl⟩
  have hb1 : Below w.heap.size w w1 := by rw [hw1]; exact (Below.refl _ _).alloc (Nat.le_refl _) _
  have B1 : Blk w1 w.heap.size 28 #[tv, .int .i64 log, .int .i64 next] := by rw [hw1]; exact Blk.alloc_new _ _ _
  obtain ⟨x, c, rfl, hel⟩ := h.below hb1
  have Hel := Lib.hid hel
  have Hb1 := Lib.hid hb1
  have HW1 := Lib.hid hw1
  have HB1 := Lib.hid B1
  have Hfe := Lib.hid hfe
  unfold maxLen at hl
  clear h hel hb1 B1 hfe hw1
  unfold stV
  by_cases hne : 0 < l.length
  case neg =>
    have hz : (l.length : Int) = 0 := by omega
    have hB : (↑l.length == (0:Int)) = true := by rw [hz]; rfl
    clear hz
    go_enter Tryz.func29, Tryz.ntmps29
    go_wp2_with fail
    rw [← HW1.out]
    go_ret
    rw [Ed.validB_false fun h => hne h.some]
    exact ⟨rfl, Hb1.out⟩
  case pos =>
    obtain ⟨b, off, tv, rfl, hb, c0, c1, _⟩ := Hel.out 0 hne
    have q0 : w1.cell? ⟨b, off, none⟩ = some (.string l[0].frm) := by rw [Nat.zero_mul, Nat.add_zero] at c0; exact c0
    obtain ⟨f0, hf0⟩ : ∃ f0, f0 = l[0].frm := ⟨_, rfl⟩
    rw [← hf0] at q0
    have Hf0 := Lib.hid hf0
    rw [HW1.out] at q0
    have hB : (↑l.length == (0:Int)) = false := by rw [beq_eq_false_iff_ne]; omega
    clear c0 c1 hf0
    by_cases hok : f0.size = 0 ∧ l.length ≤ 16 ∧ 1 ≤ log ∧ log < next ∧ next ≤ 2147483647
    case neg =>
      have HN := Lib.hid (Ed.validB_false (s := ⟨l, log, next⟩) fun h => hok (by rw [Hf0.out]; exact ⟨h.first, h.few, h.log, h.logn, h.next⟩))
      go_enter Tryz.func29, Tryz.ntmps29
      go_wp2_with fail
      all_goals first
        | (rw [← HW1.out]
           go_ret
           rw [HN.out]
           exact ⟨rfl, Hb1.out⟩)
        | (exfalso
           refine hok ⟨?_, by omega, by omega, by omega, by omega⟩
           have e : f0.toList = [] := by assumption
           rw [ByteArray.toList_eq] at e
           have : f0.data.toList.length = 0 := by rw [e]; rfl
           simpa using this)
    case pos =>
      obtain ⟨h1, h2, h3, h4, h5⟩ := hok
      have h6 : f0.toList = [] := by rw [bytes_empty h1, ByteArray.toList_eq]
      have h7 : ((l.length : Int)) ≤ 16 := by omega
      go_enter Tryz.func29, Tryz.ntmps29
      go_wp2_with fail
      rw [← HW1.out]
      clear q0 hB
      go_loopw [3, 4, 43] (fun _ _ v43 wr => ∃ k : Nat, v43 = .int .i64 k ∧ k ≤ l.length ∧ (∀ (j : Nat) (hj : j < l.length), j < k → l[j].frm.size ≤ 64 ∧ (∀ h : 0 < j, Ed.lt l[j - 1].frm l[j].frm = true) ∧ Ed.Rising l[j].tabs next ∧ l[j].tabs.length ≤ 128) ∧ Below w1.heap.size w1 wr) (fun _ _ v43 _ => l.length - (intOf v43).toNat)
      case atStart => exact ⟨0, rfl, Nat.zero_le _, fun j _ hj => absurd hj (by omega), Below.refl _ _⟩
      case round =>
        obtain ⟨k, rfl, hk, hsm, hbe⟩ := hrel
        have Hsm := Lib.hid hsm
        have Hbe := Lib.hid hbe
        clear hsm hbe
        by_cases hlt : k < l.length
        · obtain ⟨b', off', tk, e, _, c0, c1, hr⟩ := Hel.out k hlt
          cases e
          have hbr : b < wr.heap.size := by have := Hbe.out.size; omega
          have d0 := (Hbe.out.cell (p := ⟨b, _, none⟩) hb).trans c0
          have d1 := (Hbe.out.cell (p := ⟨b, _, none⟩) hb).trans c1
          have hr2 := hr.below Hbe.out
          have hfk := Hfe.out k hlt
          obtain ⟨f, hf⟩ : ∃ f, f = l[k].frm := ⟨_, rfl⟩
          obtain ⟨ts, hts⟩ : ∃ ts, ts = l[k].tabs := ⟨_, rfl⟩
          rw [← hf] at d0 hfk
          rw [← hts] at hr2 hfk
          have Hf := Lib.hid hf
          have Hts := Lib.hid hts
          obtain ⟨n1, n2⟩ := hfk
          unfold maxLen at n1 n2
          have q0 := (HB1.out.below Hbe.out).cell 0
          have q1 := (HB1.out.below Hbe.out).cell 1
          have q2 := (HB1.out.below Hbe.out).cell 2
          simp at q0 q1 q2
          have HR := Lib.hid (fun (W : World) (hW : Below wr.heap.size wr W) => rising_any tk ts next W (hr2.below hW) (by unfold maxLen; exact n2))
          obtain ⟨y, yc, rfl, _⟩ := hr2.form
          have hbl : b < wr.heap.size := by have := Hbe.out.size; omega
          have hwl : w.heap.size < wr.heap.size := by have := Hbe.out.size; have := HB1.out.lt; omega
          have hpv : ∀ h : 0 < k, wr.cell? ⟨b, off + (k - 1) * 2, none⟩ = some (.string l[k - 1].frm) := fun h => by
            obtain ⟨b', off', tk, e, _, c0, _, _⟩ := Hel.out (k - 1) (by omega)
            cases e
            exact (Hbe.out.cell (p := ⟨b, _, none⟩) hb).trans c0
          have Hpv := Lib.hid hpv
          clear c0 c1 hr hr2 hf hts hpv
          go_wp2_with fail
          have Q0 := Lib.hid q0
          have Q1 := Lib.hid q1
          have Q2 := Lib.hid q2
          clear d0 d1 q0 q1 q2
          obtain ⟨W2, hW2⟩ : ∃ W2, W2 = wr.alloc (.cells #[.string f, .slice y ts.length yc] 65 (0, 0)) := ⟨_, rfl⟩
          have hb2 : Below wr.heap.size wr W2 := by rw [hW2]; exact (Below.refl _ _).alloc (Nat.le_refl _) _
          have B2 : Blk W2 wr.heap.size 65 #[.string f, .slice y ts.length yc] := by rw [hW2]; exact Blk.alloc_new _ _ _
          rw [← hW2]
          have z0 := (hb2.cell (p := ⟨w.heap.size, 0, none⟩) hwl).trans Q0.out
          have z2 := (hb2.cell (p := ⟨w.heap.size, 2, none⟩) hwl).trans Q2.out
          have t0 := B2.cell 0
          have t1 := B2.cell 1
          simp at t0 t1
          have Hb2 := Lib.hid (Hbe.out.trans (hb2.mono Hbe.out.size))
          have HR2 := Lib.hid (fun (n : Nat) => (HR.out (W2.drewN n) (below_drewN hb2 n)).mono fun e w' ⟨he, hw⟩ => (⟨he, hw.symm⟩ : e = Ending.returned (.bool (Ed.risingB ts next)) ∧ w' = W2.drewN n))
          clear hW2 B2
          have Hno := Lib.hid (fun (hn : ¬ (f.size ≤ 64 ∧ (∀ h : 0 < k, Ed.lt l[k - 1].frm f = true) ∧ Ed.Rising ts next ∧ ts.length ≤ 128)) => Ed.validB_false (s := ⟨l, log, next⟩) fun h => hn (by rw [Hf.out, Hts.out]; exact h.each k hlt))
          have Hyes := Lib.hid (fun (hn : f.size ≤ 64 ∧ (∀ h : 0 < k, Ed.lt l[k - 1].frm f = true) ∧ Ed.Rising ts next ∧ ts.length ≤ 128) (j : Nat) (hj : j < l.length) (hjk : j < k + 1) => show l[j].frm.size ≤ 64 ∧ (∀ h : 0 < j, Ed.lt l[j - 1].frm l[j].frm = true) ∧ Ed.Rising l[j].tabs next ∧ l[j].tabs.length ≤ 128 from by
            by_cases e : j < k
            · exact Hsm.out j hj e
            · obtain rfl : j = k := by omega
              rw [Hf.out, Hts.out] at hn; exact hn)
          clear h2
          by_cases h64 : f.size ≤ 64
          case neg =>
            have g64 : decide ((64 : Int) < f.size) = true := decide_eq_true (by omega)
            have g64' : decide (64 < f.size) = true := decide_eq_true (by omega)
            have HN := Lib.hid (Hno.out fun h => h64 h.1)
            clear h64 t1 z0 z2
            go_quiet (fail)
            go_wp2_with fail
            go_ret
            rw [HN.out]
            exact ⟨rfl, below_drewN (Hb1.out.trans (Hb2.out.mono Hb1.out.size)) _⟩
          case pos =>
            have g64 : decide ((64 : Int) < f.size) = false := decide_eq_false (by omega)
            have g64' : decide (64 < f.size) = false := decide_eq_false (by omega)
            have hfin : (∀ h : 0 < k, Ed.lt l[k - 1].frm f = true) → True := fun _ => trivial
            by_cases hpos : 0 < k
            case pos =>
              have p0 := (hb2.cell (p := ⟨b, _, none⟩) hbl).trans (Hpv.out hpos)
              obtain ⟨pf, hpf⟩ : ∃ pf, pf = l[k - 1].frm := ⟨_, rfl⟩
              rw [← hpf] at p0
              have Hpf := Lib.hid hpf
              clear hb2 hpf hfin
              obtain ⟨k', rfl⟩ : ∃ k', k = k' + 1 := ⟨k - 1, by omega⟩
              simp only [Nat.add_sub_cancel] at p0
              have hor := Ed.lt_or f pf
              cases hlt2 : Ed.lt pf f with
              | false =>
                rw [hlt2] at hor
                have HN := Lib.hid (Hno.out fun h => by have h2 := h.2.1 (by omega); rw [← Hpf.out, hlt2] at h2; cases h2)
                clear hlt2 Hno Hyes t1 z2
                have hor2 : Op.bytesLess f.toList pf.toList = true ∨ (Op.bytesLess f.toList pf.toList = false ∧ (f.toList == pf.toList) = true) := by
                  cases h : Op.bytesLess f.toList pf.toList with
                  | true => exact .inl rfl
                  | false => rw [h] at hor; exact .inr ⟨rfl, by simpa using hor⟩
                clear hor
                rcases hor2 with h8 | ⟨h8, h9⟩
                all_goals
                  go_quiet (fail)
                  go_wp2_with fail
                  go_ret
                  rw [HN.out]
                  exact ⟨rfl, below_drewN (Hb1.out.trans (Hb2.out.mono Hb1.out.size)) _⟩
              | true =>
                have h8 : Op.bytesLess f.toList pf.toList = false := Ed.lt_asymm hlt2
                rw [hlt2, h8] at hor
                have h9 : (f.toList == pf.toList) = false := by simpa using hor
                clear hor
                have Hlt2 := Lib.hid hlt2
                clear hlt2
                by_cases hR : Ed.Rising ts next
                case neg =>
                  have HN := Lib.hid (Hno.out fun h => hR h.2.2.1)
                  have hRB := Ed.risingB_false hR
                  rw [hRB] at HR2
                  clear Hno Hyes hR hRB
                  go_quiet ((go_at_call 56; exact Calls.quiet_of_same (HR2.out _)))
                  go_wp2_with fail
                  go_ret
                  rw [HN.out]
                  exact ⟨rfl, below_drewN (Hb1.out.trans (Hb2.out.mono Hb1.out.size)) _⟩
                case pos =>
                  have hRB := Ed.risingB_true hR
                  rw [hRB] at HR2
                  have HR3 := Lib.hid hR
                  clear hRB hR
                  by_cases h128 : ts.length ≤ 128
                  case neg =>
                    have g : decide ((128 : Int) < ts.length) = true := decide_eq_true (by omega)
                    have g' : decide (128 < ts.length) = true := decide_eq_true (by omega)
                    have HN := Lib.hid (Hno.out fun h => h128 h.2.2.2)
                    clear Hno Hyes h128
                    go_quiet ((go_at_call 56; exact Calls.quiet_of_same (HR2.out _)))
                    go_wp2_with fail
                    go_ret
                    rw [HN.out]
                    exact ⟨rfl, below_drewN (Hb1.out.trans (Hb2.out.mono Hb1.out.size)) _⟩
                  case pos =>
                    have g : decide ((128 : Int) < ts.length) = false := decide_eq_false (by omega)
                    have g' : decide (128 < ts.length) = false := decide_eq_false (by omega)
                    have HY := Lib.hid (Hyes.out ⟨h64, fun _ => by rw [← Hpf.out]; exact Hlt2.out, HR3.out, h128⟩)
                    clear Hno Hyes h128
                    go_quiet ((go_at_call 56; exact Calls.quiet_of_same (HR2.out _)))
                    go_wp2_with fail
                    go_roundw
                    case rel => exact ⟨k' + 2, by go_num, by omega, HY.out, below_drewN Hb2.out _⟩
                    case measure => simp [intOf]; omega
            case neg =>
              have hz2 : ¬ (0 : Int) < k := by omega
              clear hb2 hfin
              by_cases hR : Ed.Rising ts next
              case neg =>
                have HN := Lib.hid (Hno.out fun h => hR h.2.2.1)
                have hRB := Ed.risingB_false hR
                rw [hRB] at HR2
                clear Hno Hyes hR hRB
                go_quiet ((go_at_call 56; exact Calls.quiet_of_same (HR2.out _)))
                go_wp2_with fail
                go_ret
                rw [HN.out]
                exact ⟨rfl, below_drewN (Hb1.out.trans (Hb2.out.mono Hb1.out.size)) _⟩
              case pos =>
                have hRB := Ed.risingB_true hR
                rw [hRB] at HR2
                have HR3 := Lib.hid hR
                clear hRB hR
                by_cases h128 : ts.length ≤ 128
                case neg =>
                  have g : decide ((128 : Int) < ts.length) = true := decide_eq_true (by omega)
                  have g' : decide (128 < ts.length) = true := decide_eq_true (by omega)
                  have HN := Lib.hid (Hno.out fun h => h128 h.2.2.2)
                  clear Hno Hyes h128
                  go_quiet ((go_at_call 56; exact Calls.quiet_of_same (HR2.out _)))
                  go_wp2_with fail
                  go_ret
                  rw [HN.out]
                  exact ⟨rfl, below_drewN (Hb1.out.trans (Hb2.out.mono Hb1.out.size)) _⟩
                case pos =>
                  have g : decide ((128 : Int) < ts.length) = false := decide_eq_false (by omega)
                  have g' : decide (128 < ts.length) = false := decide_eq_false (by omega)
                  have HY := Lib.hid (Hyes.out ⟨h64, fun h => absurd h hpos, HR3.out, h128⟩)
                  clear Hno Hyes h128
                  go_quiet ((go_at_call 56; exact Calls.quiet_of_same (HR2.out _)))
                  go_wp2_with fail
                  go_roundw
                  case rel => exact ⟨k + 1, by go_num, by omega, HY.out, below_drewN Hb2.out _⟩
                  case measure => simp [intOf]; omega
        · have hge : ¬ (k : Int) < l.length := by omega
          obtain rfl : k = l.length := by omega
          have HY := Lib.hid (Ed.validB_true (s := ⟨l, log, next⟩) ⟨hne, h2, by rw [← Hf0.out]; exact h1, h3, h4, h5, fun j hj => Hsm.out j hj hj⟩)
          go_wp2_with fail
          go_ret
          rw [HY.out]
          exact ⟨rfl, Hb1.out.trans (Hbe.out.mono Hb1.out.size)⟩
end Go.Proofs.YtcijhhnbhnaiaaaGreat

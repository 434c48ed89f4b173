/- Where a key lies, and which files there are, by the document; is a state more than is looked at? Walked. -/
import Derived.Test.YtenbgfejonokdaaEdTellP
namespace Go.Proofs.Ytenbgfejonokdaa
set_option linter.unusedSimpArgs false
set_option linter.unusedVariables false
set_option maxRecDepth 100000
open Go.RowKit

set_option maxHeartbeats 2000000 in
theorem refFiles_any (tv : Value) (s : Ed.St) (w : World) (h : RdT w tv s.l) (hf : Fits s.l) :
    Calls Try.prog 55 #[stV tv s.log s.next] w fun e w' => ∃ v', e = .returned v' ∧ RdI w' v' (filesP s) ∧ Below w.heap.size w w' := by
  obtain ⟨l, log, next⟩ := s
  simp only at h hf ⊢
  obtain ⟨w1, hw1⟩ : ∃ w1, w1 = w.alloc (.cells #[tv, .int .i64 log, .int .i64 next] 67 (0, 0)) := ⟨_, rfl⟩
  obtain ⟨kb, kbe⟩ := three_cells' w1 hw1
  have HC := Lib.hid (fun (W : World) (hW : Below w1.heap.size w1 W) => refCheck_any tv ⟨l, log, next⟩ W ((h.below kbe).below hW) hf)
  obtain ⟨x, c, rfl, hel⟩ := h.below kbe
  have Hel := Lib.hid hel
  have HB1 := Lib.hid kbe
  have K1 := Lib.hid kb
  obtain ⟨n, hn⟩ : ∃ n, n = l.length := ⟨_, rfl⟩
  rw [← hn] at HC K1 hw1 ⊢
  have HN := Lib.hid hn
  have HW := Lib.hid hw1
  unfold stV at HC ⊢
  clear h hel kb kbe hw1 hn
  by_cases hv : Ed.Valid ⟨l, log, next⟩
  case neg =>
    have e0 := Ed.validB_false hv
    have HFP := Lib.hid (show filesP ⟨l, log, next⟩ = [] by unfold filesP; rw [e0]; rfl)
    rw [e0] at HC
    clear hv e0
    go_enter Try.func55, Try.ntmps55
    go_wp2_with fail
    rw [← HW.out]
    go_loopw [3, 4] (fun v3 v4 wr => wr = w1 ∧ v4 = .int .i64 0 ∧ v3 = .slice none 0 0) (fun _ _ _ => 0)
    case atStart => exact ⟨rfl, rfl, rfl⟩
    case round =>
      obtain ⟨rfl, rfl, rfl⟩ := hrel
      obtain ⟨a0, a1, a2, _⟩ := blk3 K1.out
      go_wp2_with fail
      refine (HC.out wr (Below.refl _ _)).mono ?_
      rintro e w2 ⟨rfl, hb⟩
      have HB2 := Lib.hid (HB1.out.trans (hb.mono HB1.out.size))
      clear hb a0 a1 a2
      go_wp2_with fail
      go_ret
      rw [HFP.out]
      exact ⟨_, rfl, .inl ⟨none, 0, rfl, rfl⟩, HB2.out⟩
  case pos =>
    have e0 := Ed.validB_true hv
    have HFP := Lib.hid (show filesP ⟨l, log, next⟩ = filesL l by unfold filesP; rw [e0]; rfl)
    have HV := Lib.hid hv
    have hn16 : n ≤ 16 := by rw [HN.out]; exact hv.few
    rw [e0] at HC
    clear hv e0
    go_enter Try.func55, Try.ntmps55
    go_wp2_with fail
    rw [← HW.out]
    go_loopw [3, 4, 5] (fun v3 v4 _ wr => ∃ k : Nat, v4 = .int .i64 k ∧ k ≤ n ∧ RdI wr v3 (filesL (l.take k)) ∧ CapOk v3 ∧ Below w1.heap.size w1 wr) (fun _ v4 _ _ => n - (intOf v4).toNat)
    case atStart => exact ⟨0, rfl, Nat.zero_le _, .inl ⟨none, 0, rfl, rfl⟩, ⟨none, 0, 0, rfl, Nat.le_refl _, Nat.zero_le _⟩, Below.refl _ _⟩
    case round =>
      obtain ⟨k, rfl, hk, hrd, hcp, hbe⟩ := hrel
      have Hbe := Lib.hid hbe
      have Hrd := Lib.hid hrd
      have Hcp := Lib.hid hcp
      obtain ⟨a0, a1, a2, _⟩ := blk3 (K1.out.below hbe)
      clear hrd hbe hcp
      go_wp2_with fail
      refine (HC.out wr Hbe.out).mono ?_
      rintro e w2 ⟨rfl, hb⟩
      have Hb2 := Lib.hid (Hbe.out.trans (hb.mono Hbe.out.size))
      have Hrd2 := Lib.hid (Hrd.out.below hb)
      clear hb a0 a1 a2
      obtain ⟨a0, a1, a2, _⟩ := blk3 (K1.out.below Hb2.out)
      by_cases hlt : k < n
      · have hkl : k < l.length := by rw [← HN.out]; exact hlt
        obtain ⟨b, off, tv, rfl, hb, c0, c1, hr⟩ := Hel.out k hkl
        obtain ⟨t, htt⟩ : ∃ t, t = l[k] := ⟨_, rfl⟩
        have htl : l[k].tabs.length ≤ 128 := (HV.out.each k hkl).2.2.2
        rw [← htt] at c0 hr htl
        have Htt := Lib.hid htt
        obtain ⟨frm, tabs⟩ := t
        simp only at c0 hr htl
        have HR := Lib.hid hr
        have C1 := Lib.hid c1
        obtain ⟨y, yc, hy, _⟩ := hr.form
        obtain ⟨m, hm⟩ : ∃ m, m = tabs.length := ⟨_, rfl⟩
        rw [← hm] at hy htl
        subst hy
        have HM := Lib.hid hm
        have HBB := Lib.hid hb
        have hul := filesL_small HV.out k
        simp only at hul
        have hkk : (0 : Int) ≤ k := by omega
        clear c0 c1 hr htt hm hb
        go_wp2_with fail
        clear a0 a1 a2
        go_loopw [3, 5] (fun v3 v5 wi => ∃ j : Nat, v5 = .int .i64 j ∧ j ≤ m ∧ RdI wi v3 (Ed.union (filesL (l.take k)) (tabs.take j)) ∧ CapOk v3 ∧ Below w1.heap.size w1 wi) (fun _ v5 _ => m - (intOf v5).toNat)
        case atStart => exact ⟨0, rfl, Nat.zero_le _, Hrd2.out, Hcp.out, Hb2.out⟩
        case round =>
          obtain ⟨j, rfl, hj, hrd, hcp, hbe⟩ := hrel
          have Hbi := Lib.hid hbe
          have Hri := Lib.hid hrd
          have Hci := Lib.hid hcp
          obtain ⟨a0, a1, a2, _⟩ := blk3 (K1.out.below hbe)
          have c1 := (hbe.cell (p := ⟨b, _, none⟩) HBB.out).trans C1.out
          have HRi := Lib.hid (HR.out.below hbe)
          obtain ⟨vx, vn, vc, hvv, _⟩ := hcp
          subst hvv
          clear hrd hbe
          by_cases hjm : j < m
          · have hjl : j < tabs.length := by rw [← HM.out]; exact hjm
            obtain ⟨yy, yyc, ey, hel2⟩ := HRi.out.form
            obtain ⟨rb, roff, hyy, _, f0⟩ := hel2 j hjl
            injection ey with ey1 ey2 ey3
            rw [← ey1] at hyy
            subst hyy ey3
            obtain ⟨f, hff⟩ : ∃ f, f = tabs[j] := ⟨_, rfl⟩
            rw [← hff] at f0
            have Hn := Lib.hid hff
            have hul2 := Ed.union_len (tabs.take j) (filesL (l.take k))
            rw [List.length_take] at hul2
            have HPUT := Lib.hid (fun (W : World) => refPut_any (.slice vx vn vc) (Ed.union (filesL (l.take k)) (tabs.take j)) f wr Hri.out Hci.out (by omega))
            clear hff hel2 ey1 hul2
            go_wp2_with fail
            refine (HPUT.out wr).mono ?_
            rintro e w5 ⟨v', rfl, hr5, hc5, hb5⟩
            have HR5 := Lib.hid hr5
            have HC5 := Lib.hid hc5
            have HB5 := Lib.hid (Hbi.out.trans (hb5.mono Hbi.out.size))
            have HUS : Ed.put (Ed.union (filesL (l.take k)) (tabs.take j)) f = Ed.union (filesL (l.take k)) (tabs.take (j + 1)) := by rw [union_succ _ _ _ hjl, ← Hn.out]
            have HUS2 := Lib.hid HUS
            clear hr5 hc5 hb5 a0 a1 a2 c1 f0 HUS
            go_wp2_with fail
            go_roundw
            case rel => exact ⟨j + 1, by go_num, by omega, by rw [← HUS2.out]; exact HR5.out, HC5.out, HB5.out⟩
            case measure => simp [intOf]; omega
          · obtain rfl : j = m := by omega
            have HUS := Lib.hid (show Ed.union (filesL (l.take k)) (tabs.take j) = filesL (l.take (k + 1)) by rw [HM.out, List.take_length, filesL_succ l k hkl, ← Htt.out])
            go_wp2_with fail
            go_roundw
            case rel =>
              have h9 := Hri.out
              rw [HUS.out] at h9
              refine ⟨k + 1, by go_num, by omega, h9, Hci.out, Hbi.out⟩
            case measure => simp [intOf]; omega
      · obtain rfl : k = n := by omega
        have HFN := Lib.hid (show filesL (l.take k) = filesL l by rw [HN.out, List.take_length])
        go_wp2_with fail
        go_ret
        rw [HFP.out, ← HFN.out]
        exact ⟨_, rfl, Hrd2.out, HB1.out.trans (Hb2.out.mono HB1.out.size)⟩
/-- The last one of the tablets up to k that begins at the key, or ahead of it. -/
theorem find_last {s : Ed.St} (hv : Ed.Valid s) (key : ByteArray) (at_ : Nat) (h1 : ∃ h : at_ < s.l.length, Ed.lt key s.l[at_].frm = false) (h2 : ∀ (j : Nat) (hj : j < s.l.length), at_ < j → Ed.lt key s.l[j].frm = true) : findI s key = at_ := by
  obtain ⟨h, h1⟩ := h1
  exact findI_eq hv ⟨h, h1, fun h3 => h2 (at_ + 1) h3 (Nat.lt_succ_self _)⟩
theorem leq_not (f key : ByteArray) : (Op.bytesLess f.toList key.toList || f.toList == key.toList) = !Ed.lt key f := Ed.lt_or f key
set_option maxHeartbeats 2000000 in
theorem refFind_any (tv : Value) (s : Ed.St) (key : ByteArray) (w : World) (h : RdT w tv s.l) (hf : Fits s.l) :
    Calls Try.prog 52 #[stV tv s.log s.next, .string key] w fun e w' => e = .returned (.int .i64 (findI s key)) ∧ Below w.heap.size w w' := by
  obtain ⟨l, log, next⟩ := s
  simp only at h hf ⊢
  obtain ⟨w1, hw1⟩ : ∃ w1, w1 = w.alloc (.cells #[tv, .int .i64 log, .int .i64 next] 67 (0, 0)) := ⟨_, rfl⟩
  obtain ⟨kb, kbe⟩ := three_cells' w1 hw1
  have HC := Lib.hid (refCheck_any tv ⟨l, log, next⟩ w1 (h.below kbe) hf)
  obtain ⟨x, c, rfl, hel⟩ := h.below kbe
  have Hel := Lib.hid hel
  have HB1 := Lib.hid kbe
  have K1 := Lib.hid kb
  obtain ⟨n, hn⟩ : ∃ n, n = l.length := ⟨_, rfl⟩
  rw [← hn] at HC K1 hw1 ⊢
  have HN := Lib.hid hn
  have HW := Lib.hid hw1
  unfold stV at HC ⊢
  rw [hw1] at HC
  obtain ⟨a0, a1, a2, _⟩ := blk3 K1.out
  rw [hw1] at a0 a1 a2
  clear h hel kb kbe hw1 hn
  by_cases hv : Ed.Valid ⟨l, log, next⟩
  case neg =>
    have HFI := Lib.hid (findI_not hv key)
    have e0 := Ed.validB_false hv
    rw [e0] at HC
    clear hv e0
    go_enter Try.func52, Try.ntmps52
    go_wp2_with fail
    refine HC.out.mono ?_
    rintro e w2 ⟨rfl, hb⟩
    rw [← HW.out] at hb
    have HB2 := Lib.hid (HB1.out.trans (hb.mono HB1.out.size))
    clear hb
    go_wp2_with fail
    go_ret
    rw [HFI.out]
    exact ⟨rfl, HB2.out⟩
  case pos =>
    have HV := Lib.hid hv
    have e0 := Ed.validB_true hv
    have hn16 : n ≤ 16 := by rw [HN.out]; exact hv.few
    have hn0 : 0 < n := by rw [HN.out]; exact hv.some
    rw [e0] at HC
    clear hv e0
    go_enter Try.func52, Try.ntmps52
    go_wp2_with fail
    refine HC.out.mono ?_
    rintro e w2 ⟨rfl, hb⟩
    rw [← HW.out] at hb
    have K2 := Lib.hid (K1.out.below hb)
    have HB12 := Lib.hid hb
    have HB2 := Lib.hid (HB1.out.trans (hb.mono HB1.out.size))
    clear hb a0 a1 a2
    obtain ⟨a0, a1, a2, _⟩ := blk3 K2.out
    go_wp2_with fail
    go_loop [5, 6] (fun v5 v6 => ∃ (k r : Nat), v6 = .int .i64 k ∧ v5 = .int .i64 r ∧ k ≤ n ∧ r ≤ k ∧ (0 < k → r < k) ∧ (k = 0 → r = 0) ∧ (0 < k → ∃ h : r < l.length, Ed.lt key l[r].frm = false) ∧ ∀ (j : Nat) (hj : j < l.length), r < j → j < k → Ed.lt key l[j].frm = true) (fun _ v6 => n - (intOf v6).toNat)
    case atStart => exact ⟨0, 0, rfl, rfl, Nat.zero_le _, Nat.le_refl _, fun h => absurd h (by omega), fun _ => rfl, fun h => absurd h (by omega), fun j _ h1 h2 => absurd h2 (by omega)⟩
    case round =>
      obtain ⟨k, r, rfl, rfl, hk, hrk, hr1, hr0, hlow, hhigh⟩ := hrel
      have Hlow := Lib.hid hlow
      have Hhigh := Lib.hid hhigh
      clear hlow hhigh
      by_cases hlt : k < n
      · have hkl : k < l.length := by rw [← HN.out]; exact hlt
        obtain ⟨b, off, tv, rfl, hb, c0, c1, hr⟩ := Hel.out k hkl
        obtain ⟨f, hff⟩ : ∃ f, f = l[k].frm := ⟨_, rfl⟩
        rw [← hff] at c0
        have Hff := Lib.hid hff
        have d0 := (HB12.out.cell (p := ⟨b, _, none⟩) hb).trans c0
        have hor := leq_not f key
        have h0 : k = 0 → Ed.lt key f = false := fun e => by
          subst e
          rw [hff]
          have h1 := HV.out.first
          have h2 : l[0].frm = ⟨#[]⟩ := bytes_empty h1
          rw [h2]
          unfold Ed.lt
          rw [ByteArray.toList_eq, ByteArray.toList_eq]
          cases key.data.toList <;> rfl
        have H0 := Lib.hid h0
        clear c0 c1 hr hff h0 hb
        cases hlk : Ed.lt key f with
        | false =>
          rw [hlk] at hor
          have HLK := Lib.hid hlk
          have hlk2 : Op.bytesLess key.toList f.toList = false := hlk
          clear hlk
          go_wp2_with fail
          go_round
          case rel => exact ⟨k + 1, k, by go_num, rfl, by omega, by omega, fun _ => by omega, fun h => absurd h (by omega), fun _ => ⟨hkl, by rw [← Hff.out]; exact HLK.out⟩, fun j hj h1 h2 => absurd h1 (by omega)⟩
          case measure => simp [intOf]; omega
        | true =>
          rw [hlk] at hor
          have HLK := Lib.hid hlk
          have hk0 : 0 < k := Nat.pos_of_ne_zero fun e => by have := H0.out e; rw [hlk] at this; cases this
          have hlk2 : Op.bytesLess key.toList f.toList = true := hlk
          clear hlk
          go_wp2_with fail
          go_round
          case rel => exact ⟨k + 1, r, by go_num, rfl, by omega, by omega, fun _ => by have := hr1 hk0; omega, fun h => absurd h (by omega), fun _ => Hlow.out hk0, fun j hj h1 h2 => (by
            by_cases e : j < k
            · exact Hhigh.out j hj h1 e
            · obtain rfl : j = k := by omega
              rw [← Hff.out]; exact HLK.out)⟩
          case measure => simp [intOf]; omega
      · obtain rfl : k = n := by omega
        have HFI := Lib.hid (find_last HV.out key r (Hlow.out hn0) (fun j hj h1 => Hhigh.out j hj h1 (by rw [HN.out]; exact hj)))
        go_wp2_with fail
        go_ret
        rw [HFI.out]
        exact ⟨rfl, HB2.out⟩
/-- A state that is not more than is looked at. -/
def SmallS (l : List Ed.Tab) : Prop := l.length ≤ 40 ∧ ∀ (j : Nat) (hj : j < l.length), l[j].tabs.length ≤ 300 ∧ l[j].frm.size ≤ 200
set_option maxHeartbeats 2000000 in
theorem beyondState_any (tv : Value) (s : Ed.St) (w : World) (h : RdT w tv s.l) (hf : Fits s.l) :
    Calls Try.prog 50 #[stV tv s.log s.next] w fun e w' => (∃ b : Bool, e = .returned (.bool b) ∧ (b = false → SmallS s.l)) ∧ Below w.heap.size w w' := by
  obtain ⟨l, log, next⟩ := s
  simp only at h hf ⊢
  obtain ⟨w1, hw1⟩ : ∃ w1, w1 = w.alloc (.cells #[tv, .int .i64 log, .int .i64 next] 67 (0, 0)) := ⟨_, rfl⟩
  obtain ⟨kb, kbe⟩ := three_cells' w1 hw1
  obtain ⟨x, c, rfl, hel⟩ := h.below kbe
  have Hel := Lib.hid hel
  have HB1 := Lib.hid kbe
  have K1 := Lib.hid kb
  obtain ⟨hl, hfe⟩ := hf
  obtain ⟨n, hn⟩ : ∃ n, n = l.length := ⟨_, rfl⟩
  try simp only at hl hfe
  rw [← hn] at K1 hw1 hl ⊢
  have HN := Lib.hid hn
  have HW := Lib.hid hw1
  have HF := Lib.hid hfe
  unfold maxLen at hl
  unfold stV
  obtain ⟨a0, a1, a2, _⟩ := blk3 K1.out
  rw [hw1] at a0 a1 a2
  clear h hel kb kbe hw1 hn hfe
  by_cases h40 : 40 < n
  · have h41 : (40 : Int) < n := by omega
    go_enter Try.func50, Try.ntmps50
    go_wp2_with fail
    rw [← HW.out]
    go_ret
    exact ⟨⟨true, And.intro rfl (fun h => by cases h)⟩, HB1.out⟩
  · have h41 : ¬ (40 : Int) < n := by omega
    go_enter Try.func50, Try.ntmps50
    go_wp2_with fail
    rw [← HW.out]
    rw [← HW.out] at a0 a1 a2
    go_loop [3] (fun v3 => ∃ k : Nat, v3 = .int .i64 k ∧ k ≤ n ∧ ∀ (j : Nat) (hj : j < l.length), j < k → l[j].tabs.length ≤ 300 ∧ l[j].frm.size ≤ 200) (fun v3 => n - (intOf v3).toNat)
    case atStart => exact ⟨0, rfl, Nat.zero_le _, fun j _ hj => absurd hj (by omega)⟩
    case round =>
      obtain ⟨k, rfl, hk, hsm⟩ := hrel
      have Hsm := Lib.hid hsm
      clear hsm
      by_cases hlt : k < n
      · have hkl : k < l.length := by rw [← HN.out]; exact hlt
        obtain ⟨b, off, tv, rfl, hb, c0, c1, hr⟩ := Hel.out k hkl
        obtain ⟨g1, g2⟩ := HF.out k hkl
        obtain ⟨f, hff⟩ : ∃ f, f = l[k].frm := ⟨_, rfl⟩
        obtain ⟨y, yc, hy, _⟩ := hr.form
        obtain ⟨m, hm⟩ : ∃ m, m = l[k].tabs.length := ⟨_, rfl⟩
        rw [← hff] at c0 g1
        rw [← hm] at hy g2
        subst hy
        unfold maxLen at g1 g2
        have Hff := Lib.hid hff
        have Hm := Lib.hid hm
        clear hff hm hr
        by_cases h1 : 300 < m
        · have h1' : (300 : Int) < m := by omega
          go_wp2_with fail
          go_ret
          exact ⟨.inr rfl, HB1.out⟩
        have h1' : ¬ (300 : Int) < m := by omega
        by_cases h2 : 200 < f.size
        · have h2' : (200 : Int) < f.size := by omega
          go_wp2_with fail
          go_ret
          exact ⟨.inr rfl, HB1.out⟩
        have h2' : ¬ (200 : Int) < f.size := by omega
        go_wp2_with fail
        go_round
        case rel => exact ⟨k + 1, by go_num, by omega, fun j hj hjk => (by
          by_cases e : j < k
          · exact Hsm.out j hj e
          · obtain rfl : j = k := by omega
            rw [← Hff.out, ← Hm.out]; omega)⟩
        case measure => simp [intOf]; omega
      · obtain rfl : k = n := by omega
        go_wp2_with fail
        go_ret
        exact ⟨.inl ⟨rfl, by rw [← HN.out]; omega, fun j hj => Hsm.out j hj (by rw [HN.out]; exact hj)⟩, HB1.out⟩
end Go.Proofs.Ytenbgfejonokdaa

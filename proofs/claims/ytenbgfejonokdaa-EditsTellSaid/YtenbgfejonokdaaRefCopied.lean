/- A state of its own, by the document, walked. -/
import Derived.Test.YtenbgfejonokdaaRefRows
import Derived.Test.YtenbgfejonokdaaSink2
namespace Go.Proofs.Ytenbgfejonokdaa
set_option linter.unusedSimpArgs false
set_option linter.unusedVariables false
set_option maxRecDepth 100000
open Go.RowKit
attribute [local go_sem ↓] Go.wp_at_zero Go.wp_at_succ

set_option maxHeartbeats 8000000 in
theorem copied_any (tv : Value) (s : Ed.St) (w : World) (h : RdT w tv s.l) (hl : s.l.length ≤ 1000) (ht : ∀ (j : Nat) (hj : j < s.l.length), s.l[j].tabs.length ≤ 100000) :
    Calls Try.prog 98 #[stV tv s.log s.next] w fun e w' => ∃ v raw, e = .returned (stV v s.log s.next) ∧ OwnR w' w.heap.size v raw s.l ∧ Below w.heap.size w w' := by
  obtain ⟨l, log, next⟩ := s
  simp only at h hl ht ⊢
  have HT := Lib.hid ht
  obtain ⟨w1, hw1⟩ : ∃ w1, w1 = ((w.alloc (.cells #[tv, .int .i64 log, .int .i64 next] 67 (0, 0))).alloc (.cells #[.slice none 0 0, .int .i64 0, .int .i64 0] 67 (0, 0))).alloc (.cells #[.slice none 0 0, .int .i64 log, .int .i64 next] 67 (0, 0)) := ⟨_, rfl⟩
  obtain ⟨k1, k2, k3, kb, kz⟩ := three_allocs w _ _ _ _ _ _ w1 hw1
  obtain ⟨x, c, rfl, hel⟩ := h
  obtain ⟨n, hn⟩ : ∃ n, n = l.length := ⟨_, rfl⟩
  rw [← hn] at k1 hw1 hl ⊢
  have Hel := Lib.hid hel
  have K1 := Lib.hid k1
  have K2 := Lib.hid k2
  have K3 := Lib.hid k3
  have KB := Lib.hid kb
  have KZ := Lib.hid kz
  have HW := Lib.hid hw1
  have HN := Lib.hid hn
  obtain ⟨q, hq⟩ : ∃ q, q = w.heap.size + 1 + 1 := ⟨_, rfl⟩
  have HQ := Lib.hid hq
  rw [← hq] at K3
  clear hq hel k1 k2 k3 kb hw1 hn ht kz
  unfold stV
  go_enter Try.func98, Try.ntmps98
  go_wp2_with fail
  rw [← HW.out, ← HQ.out]
  go_loopw [4] (fun v4 wr => ∃ (k : Nat) (tx : Option Addr) (tc : Nat) (raw : List (ByteArray × Value)), v4 = .int .i64 k ∧ k ≤ n ∧ OwnR wr (q + 1) (.slice tx k tc) raw (l.take k) ∧ Blk wr q 67 #[.slice tx k tc, .int .i64 log, .int .i64 next] ∧ Blk wr (w.heap.size + 1) 67 #[.slice none 0 0, .int .i64 0, .int .i64 0] ∧ Below q w1 wr) (fun v4 _ => n - (intOf v4).toNat)
  case atStart => exact ⟨0, none, 0, [], rfl, Nat.zero_le _, OwnR.nil _ _, K3.out, K2.out, Below.refl _ _⟩
  case round =>
    obtain ⟨k, tx, tc, raw, rfl, hk, hown, hbq, hb2, hbe⟩ := hrel
    have Hown := Lib.hid hown
    have Hbq := Lib.hid hbq
    have Hb2 := Lib.hid hb2
    have Hbe := Lib.hid hbe
    have hqw : q = w.heap.size + 1 + 1 := HQ.out
    have d0 : wr.cell? ⟨w.heap.size, 0, none⟩ = some (.slice x n c) := (hbe.cell (p := ⟨w.heap.size, 0, none⟩) (by show w.heap.size < q; omega)).trans (K1.out.cell 0)
    clear hown hbq hb2 hbe hqw
    by_cases hlt : k < n
    · have hkl : k < l.length := by rw [← HN.out]; exact hlt
      obtain ⟨b, off, fv, rfl, hb, c0, c1, hrd⟩ := Hel.out k hkl
      obtain ⟨t, htt⟩ : ∃ t, t = l[k] := ⟨_, rfl⟩
      have htl := HT.out k hkl
      rw [← htt] at c0 hrd htl
      have Htt := Lib.hid htt
      obtain ⟨frm, tabs⟩ := t
      simp only at c0 c1 hrd htl
      have HK := Lib.hid (show Below w.heap.size w wr from KB.out.trans (Hbe.out.mono (by have := HQ.out; omega)))
      have e0 := (HK.out.cell (p := ⟨b, _, none⟩) hb).trans c0
      have e1 := (HK.out.cell (p := ⟨b, _, none⟩) hb).trans c1
      have Hrd := Lib.hid (hrd.below HK.out)
      obtain ⟨y, yc, hv, _⟩ := hrd.form
      obtain ⟨tn, htn⟩ : ∃ tn, tn = tabs.length := ⟨_, rfl⟩
      rw [← htn] at hv htl
      subst hv
      have Htn := Lib.hid htn
      have hqb : q ≠ b ∧ w.heap.size ≠ q := by have := HQ.out; omega
      have hqw := Hbq.out.lt
      clear c0 c1 hrd htt htn
      go_wp2_with fail
      refine wp_region_two (T := fun W => W.cell? ⟨w.heap.size, 0, none⟩ = some (.slice (some ⟨b, off, none⟩) n c) ∧ W.cell? ⟨b, off + k * 2, none⟩ = some (.string frm) ∧ W.cell? ⟨b, off + k * 2 + 1, none⟩ = some (.slice y tn yc)) (S := fun W => W.cell? ⟨q, 0, none⟩ = some (.slice tx k tc)) (n := 19) (by kernel_rfl) ?_
      obtain ⟨x0, hx0⟩ : ∃ x0, x0 = wr.drew := ⟨_, rfl⟩
      rw [← hx0]
      have hb0 : Below wr.heap.size wr x0 := by rw [hx0]; exact (Below.refl _ _).drew
      have hwlt : w.heap.size < wr.heap.size := by have := HQ.out; omega
      have hblt : b < wr.heap.size := by omega
      have hT : x0.cell? ⟨w.heap.size, 0, none⟩ = some (.slice (some ⟨b, off, none⟩) n c) ∧ x0.cell? ⟨b, off + k * 2, none⟩ = some (.string frm) ∧ x0.cell? ⟨b, off + k * 2 + 1, none⟩ = some (.slice y tn yc) := ⟨(hb0.cell (p := ⟨w.heap.size, 0, none⟩) hwlt).trans d0, (hb0.cell (p := ⟨b, _, none⟩) hblt).trans e0, (hb0.cell (p := ⟨b, _, none⟩) hblt).trans e1⟩
      have hS : x0.cell? ⟨q, 0, none⟩ = some (.slice tx k tc) := (hb0.cell (p := ⟨q, 0, none⟩) hqw).trans (Hbq.out.cell 0)
      have Hrd0 := Lib.hid (Hrd.out.below hb0)
      have Hown0 := Lib.hid (Hown.out.chg (S := fun _ => False) (Chg.of_below hb0) (fun _ h => h.elim))
      have Hbq0 := Lib.hid (Hbq.out.below hb0)
      have Hb20 := Lib.hid (Hb2.out.below hb0)
      have Hb0 := Lib.hid hb0
      have hz0 := hb0.size
      clear hx0 hb0 d0 e0 e1
      refine two_takeT 0 (some 17) (v := ?_) rfl rfl (by kernel_rfl) (by kernel_rfl) (by kernel_rfl) (by decide) (fun _ _ _ h => h) (Or.inl ⟨by rfl, ?hy0⟩) hT hS ?_
      case hy0 => (intro w' hT'; go_simp; (try with_reducible rfl))
      try simp only [Act.put, List.setIfInBounds_toArray, List.set_cons_zero, List.set_cons_succ]
      refine two_take 1 (some 18) (v := ?_) rfl rfl (by kernel_rfl) (by kernel_rfl) (by kernel_rfl) (by kernel_rfl) (by decide) (by kernel_rfl) (fun _ _ _ h => h) (Or.inl ⟨by rfl, ?hy1⟩) hT hS ?_
      case hy1 => (intro w' hS'; (try unfold S8 at hS'); go_simp; (try with_reducible rfl))
      try simp only [Act.put, List.setIfInBounds_toArray, List.set_cons_zero, List.set_cons_succ]
      refine two_takeT 2 (some 19) (v := ?_) rfl rfl (by kernel_rfl) (by kernel_rfl) (by kernel_rfl) (by decide) (fun _ _ _ h => h) (Or.inl ⟨by rfl, ?hy2⟩) hT hS ?_
      case hy2 => (intro w' hT'; go_simp; (try with_reducible rfl))
      try simp only [Act.put, List.setIfInBounds_toArray, List.set_cons_zero, List.set_cons_succ]
      refine two_takeT 3 (some 20) (v := ?_) rfl rfl (by kernel_rfl) (by kernel_rfl) (by kernel_rfl) (by decide) (fun _ _ _ h => h) (Or.inl ⟨by rfl, ?hy3⟩) hT hS ?_
      case hy3 => (intro w' hT'; go_simp; (try with_reducible rfl))
      try simp only [Act.put, List.setIfInBounds_toArray, List.set_cons_zero, List.set_cons_succ]
      refine two_takeT 4 (some 21) (v := ?_) rfl rfl (by kernel_rfl) (by kernel_rfl) (by kernel_rfl) (by decide) (fun _ _ _ h => h) (Or.inl ⟨by rfl, ?hy4⟩) hT hS ?_
      case hy4 => (intro w' hT'; go_simp; (try with_reducible rfl))
      try simp only [Act.put, List.setIfInBounds_toArray, List.set_cons_zero, List.set_cons_succ]
      refine two_takeT 5 (some 22) (v := ?_) rfl rfl (by kernel_rfl) (by kernel_rfl) (by kernel_rfl) (by decide) (fun _ _ _ h => h) (Or.inl ⟨by rfl, ?hy5⟩) hT hS ?_
      case hy5 => (intro w' hT'; go_simp; (try with_reducible rfl))
      try simp only [Act.put, List.setIfInBounds_toArray, List.set_cons_zero, List.set_cons_succ]
      refine two_takeT 6 (some 23) (v := ?_) rfl rfl (by kernel_rfl) (by kernel_rfl) (by kernel_rfl) (by decide) (fun _ _ _ h => h) (Or.inl ⟨by rfl, ?hy6⟩) hT hS ?_
      case hy6 => (intro w' hT'; go_simp; (try with_reducible rfl))
      try simp only [Act.put, List.setIfInBounds_toArray, List.set_cons_zero, List.set_cons_succ]
      refine two_takeT 7 (some 24) (v := ?_) rfl rfl (by kernel_rfl) (by kernel_rfl) (by kernel_rfl) (by decide) (fun _ _ _ h => h) (Or.inl ⟨by rfl, ?hy7⟩) hT hS ?_
      case hy7 => (intro w' hT'; go_simp; (try with_reducible rfl))
      try simp only [Act.put, List.setIfInBounds_toArray, List.set_cons_zero, List.set_cons_succ]
      refine two_takeT 8 (some 25) (v := ?_) rfl rfl (by kernel_rfl) (by kernel_rfl) (by kernel_rfl) (by decide) (fun _ _ _ h => h) (Or.inl ⟨by rfl, ?hy8⟩) hT hS ?_
      case hy8 => (intro w' hT'; go_simp; (try with_reducible rfl))
      try simp only [Act.put, List.setIfInBounds_toArray, List.set_cons_zero, List.set_cons_succ]
      refine two_takeT 9 (some 26) (v := ?_) rfl rfl (by kernel_rfl) (by kernel_rfl) (by kernel_rfl) (by decide) (fun _ _ _ h => h) (Or.inl ⟨by rfl, ?hy9⟩) hT hS ?_
      case hy9 => (intro w' hT'; go_simp; (try with_reducible rfl))
      try simp only [Act.put, List.setIfInBounds_toArray, List.set_cons_zero, List.set_cons_succ]
      refine two_takeT 10 (some 27) (v := ?_) rfl rfl (by kernel_rfl) (by kernel_rfl) (by kernel_rfl) (by decide) (fun _ _ _ h => h) (Or.inl ⟨by rfl, ?hy10⟩) hT hS ?_
      case hy10 => (intro w' hT'; go_simp; (try with_reducible rfl))
      try simp only [Act.put, List.setIfInBounds_toArray, List.set_cons_zero, List.set_cons_succ]
      refine two_takeT 11 (some 28) (v := ?_) rfl rfl (by kernel_rfl) (by kernel_rfl) (by kernel_rfl) (by decide) (fun _ _ _ h => h) (Or.inl ⟨by rfl, ?hy11⟩) hT hS ?_
      case hy11 => (intro w' hT'; go_simp; (try with_reducible rfl))
      try simp only [Act.put, List.setIfInBounds_toArray, List.set_cons_zero, List.set_cons_succ]
      refine two_takeT 12 (some 29) (v := ?_) rfl rfl (by kernel_rfl) (by kernel_rfl) (by kernel_rfl) (by decide) (fun _ _ _ h => h) (Or.inl ⟨by rfl, ?hy12⟩) hT hS ?_
      case hy12 => (intro w' hT'; go_simp; (try with_reducible rfl))
      try simp only [Act.put, List.setIfInBounds_toArray, List.set_cons_zero, List.set_cons_succ]
      refine two_takeT 13 (some 30) (v := ?_) rfl rfl (by kernel_rfl) (by kernel_rfl) (by kernel_rfl) (by decide) (fun _ _ _ h => h) (Or.inl ⟨by rfl, ?hy13⟩) hT hS ?_
      case hy13 => (intro w' hT'; go_simp; (try with_reducible rfl))
      try simp only [Act.put, List.setIfInBounds_toArray, List.set_cons_zero, List.set_cons_succ]
      refine two_one 14 rfl (by kernel_rfl) ?_
      intro K hK
      refine step_append_ints rfl (.const (.slice none 0 0)) (.tmp 30) (by rfl) x0.heap.size (.slice none 0 0) [] (by rfl) (OwnI.nil _ _) (.slice y tn yc) tabs (by rfl) Hrd0.out (by rw [← Htn.out]; simp; omega) (Nat.le_refl _) ?_
      intro v2 x1 hown2 hgr2 hvb2
      have hb1 : Below x0.heap.size x0 x1 := (Below.refl _ _).grown hgr2 (Nat.le_refl _) (fun g hg => by cases hg)
      have hT1 : x1.cell? ⟨w.heap.size, 0, none⟩ = some (.slice (some ⟨b, off, none⟩) n c) ∧ x1.cell? ⟨b, off + k * 2, none⟩ = some (.string frm) ∧ x1.cell? ⟨b, off + k * 2 + 1, none⟩ = some (.slice y tn yc) := ⟨(hb1.cell (p := ⟨w.heap.size, 0, none⟩) (by show w.heap.size < _; omega)).trans hT.1, (hb1.cell (p := ⟨b, _, none⟩) (by show b < _; omega)).trans hT.2.1, (hb1.cell (p := ⟨b, _, none⟩) (by show b < _; omega)).trans hT.2.2⟩
      have hS1 : x1.cell? ⟨q, 0, none⟩ = some (.slice tx k tc) := (hb1.cell (p := ⟨q, 0, none⟩) (by show q < _; omega)).trans hS
      rw [List.nil_append] at hown2
      obtain ⟨ux, uc, hv2, _⟩ := hown2.rd.form
      rw [← Htn.out] at hv2
      subst hv2
      refine hK.out _ _ hT1 (fun _ _ => hS1) ?_
      have Ho2 := Lib.hid hown2
      have Hb1 := Lib.hid hb1
      have Hown1 := Lib.hid (Hown0.out.chg (S := fun _ => False) (Chg.of_below hb1) (fun _ h => h.elim))
      have hz1 := hb1.size
      clear hK K hT hS hown2 hgr2 hvb2 hb1
      have hT := hT1
      have hS := hS1
      clear hT1 hS1
      try simp only [Act.put, List.setIfInBounds_toArray, List.set_cons_zero, List.set_cons_succ]
      refine two_one 15 rfl (by kernel_rfl) ?_
      intro K hK
      go_simp
      refine hK.out _ _ hT (fun _ _ => hS) ?_
      clear hK K
      try simp only [Act.put, List.setIfInBounds_toArray, List.set_cons_zero, List.set_cons_succ]
      refine two_one 16 rfl (by kernel_rfl) ?_
      intro K hK
      go_simp
      obtain ⟨x2, hx2⟩ : ∃ x2, x2 = x1.alloc (.cells #[.string frm, .slice ux tn uc] 70 (0, 0)) := ⟨_, rfl⟩
      obtain ⟨kt, ktb⟩ := two_cells' x2 hx2
      rw [← hx2]
      have hT1 : x2.cell? ⟨w.heap.size, 0, none⟩ = some (.slice (some ⟨b, off, none⟩) n c) ∧ x2.cell? ⟨b, off + k * 2, none⟩ = some (.string frm) ∧ x2.cell? ⟨b, off + k * 2 + 1, none⟩ = some (.slice y tn yc) := ⟨(ktb.cell (p := ⟨w.heap.size, 0, none⟩) (by show w.heap.size < _; omega)).trans hT.1, (ktb.cell (p := ⟨b, _, none⟩) (by show b < _; omega)).trans hT.2.1, (ktb.cell (p := ⟨b, _, none⟩) (by show b < _; omega)).trans hT.2.2⟩
      have hS1 : x2.cell? ⟨q, 0, none⟩ = some (.slice tx k tc) := (ktb.cell (p := ⟨q, 0, none⟩) (by show q < _; omega)).trans hS
      refine hK.out _ _ hT1 (fun _ _ => hS1) ?_
      obtain ⟨g, hg⟩ : ∃ g, g = x1.heap.size := ⟨_, rfl⟩
      rw [← hg] at kt ⊢
      have Hkt := Lib.hid kt
      have Hktb := Lib.hid ktb
      have Ho3 := Lib.hid ((Ho2.out.kept ktb).base (B' := q + 1) (by omega))
      have Hown2 := Lib.hid (Hown1.out.chg (S := fun _ => False) (Chg.of_below ktb) (fun _ h => h.elim))
      have Hfar := Lib.hid (show ∀ g, (Value.slice ux tn uc).ownBlock = some g → (Value.slice tx k tc).ownBlock ≠ some g ∧ ∀ (j : Nat) (hj : j < raw.length), raw[j].2.ownBlock ≠ some g from fun g hg => by
        have h1 := ((World.ownsRow.lt Ho2.out) g hg).1
        have h2 := Hown0.out.lt
        exact ⟨fun e => by have := (h2.1 g e).2; omega, fun j hj e => by have := (h2.2 j hj g e).2; omega⟩)
      have hz2 := ktb.size
      have htk : (l.take k).length = k := by rw [List.length_take]; omega
      have Htk := Lib.hid htk
      clear hK K hT hS kt ktb hx2 hg htk
      have hT := hT1
      have hS := hS1
      clear hT1 hS1
      try simp only [Act.put, List.setIfInBounds_toArray, List.set_cons_zero, List.set_cons_succ]
      refine two_one 17 rfl (by kernel_rfl) ?_
      intro K hK
      refine step_append_tr rfl (.tmp 18) (.tmp 33) (by rfl) (q + 1) (.slice tx k tc) raw (l.take k) (by rfl) Hown2.out g (by rfl) ⟨frm, tabs⟩ (.slice ux tn uc) (blk_row Hkt.out rfl) Ho3.out Hfar.out (by rw [Htk.out]; omega) (by omega) ?_
      intro v' x3 hown3 hbel3
      obtain ⟨vx, vc, hv', _⟩ := hown3.form
      rw [List.length_append, Htk.out, List.length_singleton] at hv'
      subst hv'
      have hT1 : x3.cell? ⟨w.heap.size, 0, none⟩ = some (.slice (some ⟨b, off, none⟩) n c) ∧ x3.cell? ⟨b, off + k * 2, none⟩ = some (.string frm) ∧ x3.cell? ⟨b, off + k * 2 + 1, none⟩ = some (.slice y tn yc) := ⟨(hbel3.cell (p := ⟨w.heap.size, 0, none⟩) (by show w.heap.size < _; have := HQ.out; omega)).trans hT.1, (hbel3.cell (p := ⟨b, _, none⟩) (by show b < _; have := HQ.out; omega)).trans hT.2.1, (hbel3.cell (p := ⟨b, _, none⟩) (by show b < _; have := HQ.out; omega)).trans hT.2.2⟩
      have hS1 : x3.cell? ⟨q, 0, none⟩ = some (.slice tx k tc) := (hbel3.cell (p := ⟨q, 0, none⟩) (Nat.lt_succ_self q)).trans hS
      refine hK.out _ _ hT1 (fun _ _ => hS1) ?_
      have Hbel3 := Lib.hid (show Below (q + 1) wr x3 from ((Hb0.out.trans (Hb1.out.mono hz0)).trans (Hktb.out.mono (by omega))).mono (by omega) |>.trans hbel3)
      have Hown3 := Lib.hid hown3
      clear hK K hT hS hown3 hbel3
      have hT := hT1
      have hS := hS1
      clear hT1 hS1
      try simp only [Act.put, List.setIfInBounds_toArray, List.set_cons_zero, List.set_cons_succ]
      refine two_one 18 rfl (by kernel_rfl) ?_
      intro K hK
      go_simp
      refine hK.out _ _ hT (fun _ _ => hS) ?_
      clear hK K
      try simp only [Act.put, List.setIfInBounds_toArray, List.set_cons_zero, List.set_cons_succ]
      have hbqq : Blk x3 q 67 #[.slice tx k tc, .int .i64 log, .int .i64 next] := by
        have h1 := Hbq.out
        unfold Blk at h1 ⊢
        rw [Hbel3.out.block q (Nat.lt_succ_self q)]; exact h1
      have Hbq3 := Lib.hid hbqq
      obtain ⟨_, _, _, g0, g1, g2⟩ := blk3 hbqq
      clear hbqq
      refine two_one 19 rfl (by kernel_rfl) ?_
      intro K hK
      go_simp
      obtain ⟨x4, hx4⟩ : ∃ x4, x4 = x3.setCell ⟨q, 0, none⟩ (.slice vx (k + 1) vc) := ⟨_, rfl⟩
      rw [← hx4]
      have z1 : Blk x4 q 67 #[.slice vx (k + 1) vc, .int .i64 log, .int .i64 next] := by rw [hx4]; exact Hbq3.out.set 0 _
      have z2 : Chg (fun g => g = q) x3 x4 := by rw [hx4]; exact (Chg.refl _ _).setCell (S := fun g => g = q) (fun _ => rfl) _
      have hT1 : x4.cell? ⟨w.heap.size, 0, none⟩ = some (.slice (some ⟨b, off, none⟩) n c) ∧ x4.cell? ⟨b, off + k * 2, none⟩ = some (.string frm) ∧ x4.cell? ⟨b, off + k * 2 + 1, none⟩ = some (.slice y tn yc) := by
        rw [hx4]
        exact ⟨(World.cell?_setCell_far _ _ _ _ (Ne.symm hqb.2)).trans hT.1, (World.cell?_setCell_far _ _ _ _ hqb.1).trans hT.2.1, (World.cell?_setCell_far _ _ _ _ hqb.1).trans hT.2.2⟩
      refine hK.out _ _ hT1 (fun _ e => absurd rfl e) ?_
      refine two_done (by kernel_rfl) ?_ _
      have HQ4 := Lib.hid z1
      have HO4 := Lib.hid (Hown3.out.chg z2 (fun g e => by omega))
      have HB4 := Lib.hid (show Below q w1 x4 from Hbe.out.trans ((Hbel3.out.mono (by omega)).trans (z2.below (B := q) (by have := Hbel3.out.size; omega) (fun g hg e => by omega))))
      have HB4' := Lib.hid (show Below q wr x4 from (Hbel3.out.mono (by omega)).trans (z2.below (B := q) (by have := Hbel3.out.size; omega) (fun g hg e => by omega)))
      have HZ4 := Lib.hid (show Blk x4 (w.heap.size + 1) 67 #[.slice none 0 0, .int .i64 0, .int .i64 0] from by
        have h1 := Hb2.out
        unfold Blk at h1 ⊢
        rw [HB4'.out.block _ (by have := HQ.out; omega)]; exact h1)
      have hsucc : l.take k ++ [⟨frm, tabs⟩] = l.take (k + 1) := by rw [List.take_succ_eq_append_getElem hkl, ← Htt.out]
      rw [hsucc] at HO4
      clear hK K hx4 z1 z2 hT hS hT1 g0 g1 g2 hsucc
      go_wp2_with fail
      go_roundw
      case rel => exact ⟨k + 1, _, _, _, by go_num, by omega, HO4.out, HQ4.out, HZ4.out, HB4.out⟩
      case measure => simp [intOf]; omega
    · obtain rfl : k = n := by omega
      have hfull : l.take k = l := by rw [HN.out]; exact List.take_length
      rw [hfull] at Hown
      obtain ⟨a0, a1, a2, _⟩ := blk3 Hbq.out
      obtain ⟨g0, g1, g2, f0, f1, f2⟩ := blk3 Hb2.out
      clear hfull
      go_wp2_with fail
      obtain ⟨w9, hw9⟩ : ∃ w9, w9 = ((wr.setCell ⟨w.heap.size + 1, 0, none⟩ (.slice tx k tc)).setCell ⟨w.heap.size + 1, 1, none⟩ (.int .i64 log)).setCell ⟨w.heap.size + 1, 2, none⟩ (.int .i64 next) := ⟨_, rfl⟩
      rw [← hw9]
      obtain ⟨z1, z2⟩ := three_set Hb2.out w9 hw9
      obtain ⟨k0, k1, k2, _⟩ := blk3 z1
      have hB9 : Below w.heap.size w w9 := (KB.out.trans (Hbe.out.mono (by have := HQ.out; omega))).trans (z2.below (by have := Hb2.out.lt; omega) fun g hg e => by omega)
      have hO9 := Lib.hid (Hown.out.chg z2 (fun g e => by have := HQ.out; omega))
      clear hw9 z1 z2 a0 a1 a2 g0 g1 g2 f0 f1 f2
      refine bodyPost_ret (v := .agg #[.slice tx k tc, .int .i64 log, .int .i64 next]) (by simp [results, Try.results98, go_sem, k0, k1, k2]) rfl ⟨_, raw, rfl, hO9.out.weak (by have := HQ.out; omega), hB9⟩
end Go.Proofs.Ytenbgfejonokdaa

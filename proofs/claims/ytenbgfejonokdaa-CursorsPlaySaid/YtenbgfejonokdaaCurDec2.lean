/- The cursor of some bytes, by the document, walked. -/
import Derived.Test.YtenbgfejonokdaaCurDec
namespace Go.Proofs.Ytenbgfejonokdaa
set_option maxRecDepth 100000
open Go.RowKit

theorem decR_two (s : List UInt8) (h : s[0]? = some 67) : Cur.decR s =
    if (got (Var.get s 1)).2.2 = true ∧ (got (Var.get s (got (Var.get s 1)).2.1)).2.2 = true ∧ (got (Var.get s (got (Var.get s 1)).2.1)).2.1 = s.length ∧ Cur.May (got (Var.get s 1)).1 (got (Var.get s (got (Var.get s 1)).2.1)).1
    then ((((got (Var.get s 1)).1 : Int), ((got (Var.get s (got (Var.get s 1)).2.1)).1 : Int)), 0) else ((0, 0), 30) := by
  unfold Cur.decR Cur.dec
  rw [if_pos h]
  cases h1 : Var.get s 1 with
  | none => simp [got]
  | some x =>
    obtain ⟨n, p⟩ := x
    simp only
    cases h2 : Var.get s p with
    | none => simp [h2, got]
    | some y =>
      obtain ⟨g, e⟩ := y
      simp only [h2, got, true_and]
      by_cases hh : e = s.length ∧ Cur.May n g
      · rw [if_pos hh, if_pos hh]
      · rw [if_neg hh, if_neg hh]
theorem decR_not (s : List UInt8) (h : s[0]? ≠ some 67) : Cur.decR s = ((0, 0), 30) := by
  unfold Cur.decR Cur.dec
  rw [if_neg h]
set_option maxHeartbeats 2000000 in
theorem refDecode_any (s : ByteArray) (w : World) (hs : s.size ≤ maxLen) :
    Calls Try.prog 18 #[.string s] w fun e w' => e = .returned (.tuple #[curV (Cur.decR s.data.toList).1.1 (Cur.decR s.data.toList).1.2, .int .i64 (Cur.decR s.data.toList).2]) ∧ Below w.heap.size w w' := by
  have hl : s.data.toList.length = s.size := by simp
  have hsm : s.size ≤ 9223372036854775807 := by unfold maxLen at hs; omega
  obtain ⟨R, hR⟩ : ∃ R, R = Cur.decR s.data.toList := ⟨_, rfl⟩
  rw [← hR]
  unfold curV
  have B0 := Lib.hid (Blk.alloc_new w 23 #[.int .i64 0, .int .i64 0])
  obtain ⟨w1, hw1⟩ : ∃ w1, w1 = w.alloc (.cells #[.int .i64 0, .int .i64 0] 23 (0, 0)) := ⟨_, rfl⟩
  rw [← hw1] at B0
  have Hb1 := Lib.hid (show Below w.heap.size w w1 by rw [hw1]; exact (Below.refl _ _).alloc (Nat.le_refl _) _)
  have hz1 : w1.heap.size = w.heap.size + 1 := by rw [hw1]; simp
  have HW1 := Lib.hid hw1
  clear hw1
  have bad : ∀ v : World, Below w1.heap.size w1 v → Blk ((v.setCell ⟨w.heap.size, 0, none⟩ (.int .i64 0)).setCell ⟨w.heap.size, 1, none⟩ (.int .i64 0)) w.heap.size 23 #[.int .i64 0, .int .i64 0] ∧ Below w.heap.size w ((v.setCell ⟨w.heap.size, 0, none⟩ (.int .i64 0)).setCell ⟨w.heap.size, 1, none⟩ (.int .i64 0)) := fun v hv =>
    ⟨cur_two (B0.out.below hv) _ _, ((Hb1.out.trans (hv.mono (by omega))).setCell (p := ⟨w.heap.size, 0, none⟩) (Nat.le_refl _) _).setCell (p := ⟨w.heap.size, 1, none⟩) (Nat.le_refl _) _⟩
  have Bad := Lib.hid bad
  by_cases h0 : s.data.toList[0]? = some 67
  · rw [decR_two _ h0] at hR
    have hpos : 0 < s.size := by
      have := (List.getElem?_eq_some_iff.1 h0).1
      omega
    have hc0 : s[0] = 67 := by
      have := (List.getElem?_eq_some_iff.1 h0).2
      exact this
    have hg1 := fun W : World => refGet_any s 1 W hs (by omega)
    obtain ⟨G1, hG1⟩ : ∃ G1, G1 = got (Var.get s.data.toList 1) := ⟨_, rfl⟩
    simp only [gotE_eq] at hg1
    rw [← hG1] at hR
    simp only [← hG1] at hg1
    have hle1 : G1.2.1 ≤ s.size := by rw [hG1, ← hl]; exact got_le _ _
    have hg2 := fun W : World => refGet_any s G1.2.1 W hs (by omega)
    obtain ⟨G2, hG2⟩ : ∃ G2, G2 = got (Var.get s.data.toList G1.2.1) := ⟨_, rfl⟩
    simp only [gotE_eq] at hg2
    rw [← hG2] at hR
    simp only [← hG2] at hg2
    clear hG1 hG2
    obtain ⟨n, p, o1⟩ := G1
    obtain ⟨g, e, o2⟩ := G2
    simp only at hR hg1 hg2 hle1
    rw [hl] at hR
    have Hg1 := Lib.hid hg1
    have Hg2 := Lib.hid hg2
    have HR := Lib.hid hR
    have q0 : ((s.size : Int) == 0) = false := by rw [beq_eq_false_iff_ne]; omega
    have q0' : (s.size == 0) = false := by rw [beq_eq_false_iff_ne]; omega
    have q1 : (0 : Int) < s.size := by omega
    clear hg1 hg2 hR h0 hl hs bad
    go_enter Try.func18, Try.ntmps18
    go_wp2_with fail
    rw [← HW1.out]
    refine (Hg1.out _).mono ?_
    rintro e' w2 ⟨rfl, hb2⟩
    have Hb2 := Lib.hid hb2
    clear hb2
    go_wp2_with fail
    refine (Hg2.out _).mono ?_
    rintro e' w3 ⟨rfl, hb3⟩
    have Hb3 := Lib.hid (Hb2.out.trans (hb3.mono Hb2.out.size))
    clear hb3
    obtain ⟨w4, hw4⟩ : ∃ w4, w4 = w3.alloc (.cells #[.int .i64 n, .int .i64 g] 23 (0, 0)) := ⟨_, rfl⟩
    have Hb4 := Lib.hid (show Below w1.heap.size w1 w4 from by rw [hw4]; exact Hb3.out.alloc Hb3.out.size _)
    have B4 := Lib.hid (show Blk w4 w3.heap.size 23 #[.int .i64 n, .int .i64 g] from by rw [hw4]; exact Blk.alloc_new w3 _ _)
    have HW4 := Lib.hid hw4
    have hmay := fun W : World => refMay_any (n : Int) (g : Int) W
    unfold curV at hmay
    clear hw4
    have bx := B0.out.below Hb4.out
    have h0 := bx.free 0
    have h1 := bx.free 1
    have e0 := bx.cell 0
    have e1 := bx.cell 1
    simp at e0 e1
    clear bx
    have c0 := B4.out.cell 0
    have c1 := B4.out.cell 1
    simp at c0 c1
    by_cases hall : o1 = true ∧ o2 = true ∧ e = s.size
    · obtain ⟨rfl, rfl, rfl⟩ := hall
      have hr := HR.out
      by_cases hm : Cur.May n g
      · rw [if_pos ⟨rfl, rfl, rfl, hm⟩] at hr
        rw [decide_eq_true hm] at hmay
        have Hr := Lib.hid hr
        have Hm := Lib.hid hmay
        clear hr hmay hm
        go_wp2_with fail
        rw [← HW4.out]
        go_wp2_with fail
        refine (Hm.out _).mono ?_
        rintro e' w5 ⟨rfl, hb5⟩
        have c0' := (hb5.cell (p := ⟨w3.heap.size, 0, none⟩) B4.out.lt).trans c0
        have c1' := (hb5.cell (p := ⟨w3.heap.size, 1, none⟩) B4.out.lt).trans c1
        have Hb5 := Lib.hid (Hb4.out.trans (hb5.mono Hb4.out.size))
        clear hb5 h0 h1 e0 e1
        have bx := B0.out.below Hb5.out
        have h0 := bx.free 0
        have h1 := bx.free 1
        have e0 := bx.cell 0
        have e1 := bx.cell 1
        simp at e0 e1
        clear bx
        have HZ := Lib.hid (And.intro (cur_two (B0.out.below Hb5.out) (.int .i64 n) (.int .i64 g)) (((Hb1.out.trans (Hb5.out.mono (by omega))).setCell (p := ⟨w.heap.size, 0, none⟩) (Nat.le_refl _) (.int .i64 n)).setCell (p := ⟨w.heap.size, 1, none⟩) (Nat.le_refl _) (.int .i64 g)))
        go_wp2_with fail
        generalize ((w5.setCell ⟨w.heap.size, 0, none⟩ (.int .i64 n)).setCell ⟨w.heap.size, 1, none⟩ (.int .i64 g)) = wz at HZ ⊢
        have k0 := HZ.out.1.cell 0
        have k1 := HZ.out.1.cell 1
        simp at k0 k1
        refine bodyPost_ret (v := .tuple #[.agg #[.int .i64 n, .int .i64 g], .int .i64 0]) (by simp [results, Try.results18, go_sem, k0, k1]) rfl ⟨by rw [Hr.out], HZ.out.2⟩
      · rw [if_neg (fun e => hm e.2.2.2)] at hr
        rw [decide_eq_false hm] at hmay
        have Hr := Lib.hid hr
        have Hm := Lib.hid hmay
        clear hr hmay hm
        go_wp2_with fail
        rw [← HW4.out]
        go_wp2_with fail
        refine (Hm.out _).mono ?_
        rintro e' w5 ⟨rfl, hb5⟩
        have Hb5 := Lib.hid (Hb4.out.trans (hb5.mono Hb4.out.size))
        clear hb5 h0 h1 e0 e1
        have bx := B0.out.below Hb5.out
        have h0 := bx.free 0
        have h1 := bx.free 1
        have e0 := bx.cell 0
        have e1 := bx.cell 1
        simp at e0 e1
        clear bx
        have HZ := Lib.hid (Bad.out _ Hb5.out)
        go_wp2_with fail
        generalize ((w5.setCell ⟨w.heap.size, 0, none⟩ (.int .i64 0)).setCell ⟨w.heap.size, 1, none⟩ (.int .i64 0)) = wz at HZ ⊢
        have k0 := HZ.out.1.cell 0
        have k1 := HZ.out.1.cell 1
        simp at k0 k1
        refine bodyPost_ret (v := .tuple #[.agg #[.int .i64 0, .int .i64 0], .int .i64 30]) (by simp [results, Try.results18, go_sem, k0, k1]) rfl ⟨by rw [Hr.out], HZ.out.2⟩
    · have hr := HR.out
      rw [if_neg (fun x => hall ⟨x.1, x.2.1, x.2.2.1⟩)] at hr
      have Hr := Lib.hid hr
      have HZ := Lib.hid (Bad.out _ Hb4.out)
      clear hr hmay
      cases o1 with
      | false =>
        clear hall
        rw [HW4.out] at h0 h1 e0 e1 c0 c1
        go_wp2_with fail
        rw [← HW4.out]
        generalize ((w4.setCell ⟨w.heap.size, 0, none⟩ (.int .i64 0)).setCell ⟨w.heap.size, 1, none⟩ (.int .i64 0)) = wz at HZ ⊢
        have k0 := HZ.out.1.cell 0
        have k1 := HZ.out.1.cell 1
        simp at k0 k1
        refine bodyPost_ret (v := .tuple #[.agg #[.int .i64 0, .int .i64 0], .int .i64 30]) (by simp [results, Try.results18, go_sem, k0, k1]) rfl ⟨by rw [Hr.out], HZ.out.2⟩
      | true =>
        cases o2 with
        | false =>
          clear hall
          rw [HW4.out] at h0 h1 e0 e1 c0 c1
          go_wp2_with fail
          rw [← HW4.out]
          generalize ((w4.setCell ⟨w.heap.size, 0, none⟩ (.int .i64 0)).setCell ⟨w.heap.size, 1, none⟩ (.int .i64 0)) = wz at HZ ⊢
          have k0 := HZ.out.1.cell 0
          have k1 := HZ.out.1.cell 1
          simp at k0 k1
          refine bodyPost_ret (v := .tuple #[.agg #[.int .i64 0, .int .i64 0], .int .i64 30]) (by simp [results, Try.results18, go_sem, k0, k1]) rfl ⟨by rw [Hr.out], HZ.out.2⟩
        | true =>
          have hne : e ≠ s.size := fun x => hall ⟨rfl, rfl, x⟩
          have qp : ((e : Int) != s.size) = true := by rw [bne_iff_ne]; omega
          have qp' : (e != s.size) = true := by rw [bne_iff_ne]; exact hne
          clear hall hne
          rw [HW4.out] at h0 h1 e0 e1 c0 c1
          go_wp2_with fail
          rw [← HW4.out]
          generalize ((w4.setCell ⟨w.heap.size, 0, none⟩ (.int .i64 0)).setCell ⟨w.heap.size, 1, none⟩ (.int .i64 0)) = wz at HZ ⊢
          have k0 := HZ.out.1.cell 0
          have k1 := HZ.out.1.cell 1
          simp at k0 k1
          refine bodyPost_ret (v := .tuple #[.agg #[.int .i64 0, .int .i64 0], .int .i64 30]) (by simp [results, Try.results18, go_sem, k0, k1]) rfl ⟨by rw [Hr.out], HZ.out.2⟩
  · rw [decR_not _ h0] at hR
    have Hr := Lib.hid hR
    have hh0 := B0.out.free 0
    have hh1 := B0.out.free 1
    have e0 := B0.out.cell 0
    have e1 := B0.out.cell 1
    simp at e0 e1
    rcases Nat.eq_zero_or_pos s.size with hz | hz
    · clear hR bad hl hs h0
      rw [HW1.out] at hh0 hh1 e0 e1
      go_enter Try.func18, Try.ntmps18
      go_wp2_with fail
      rw [← HW1.out]
      have k0 := B0.out.cell 0
      have k1 := B0.out.cell 1
      simp at k0 k1
      refine bodyPost_ret (v := .tuple #[.agg #[.int .i64 0, .int .i64 0], .int .i64 30]) (by simp [results, Try.results18, go_sem, k0, k1]) rfl ⟨by rw [Hr.out], Hb1.out⟩
    · obtain ⟨c, hc⟩ : ∃ c, s[0] = c := ⟨_, rfl⟩
      have hc67 : c.toNat ≠ 67 := by
        intro e
        apply h0
        rw [List.getElem?_eq_getElem (by omega)]
        congr 1
        apply UInt8.toNat_inj.1
        rw [show s.data.toList[0]'(by omega) = c from hc, e]; rfl
      have q0 : ((s.size : Int) == 0) = false := by rw [beq_eq_false_iff_ne]; omega
      have q0' : (s.size == 0) = false := by rw [beq_eq_false_iff_ne]; omega
      have q1 : (0 : Int) < s.size := by omega
      have q2 : ((c.toNat : Int) != 67) = true := by rw [bne_iff_ne]; omega
      clear hR bad hl hs h0
      rw [HW1.out] at hh0 hh1 e0 e1
      go_enter Try.func18, Try.ntmps18
      go_wp2_with fail
      rw [← HW1.out]
      have k0 := B0.out.cell 0
      have k1 := B0.out.cell 1
      simp at k0 k1
      refine bodyPost_ret (v := .tuple #[.agg #[.int .i64 0, .int .i64 0], .int .i64 30]) (by simp [results, Try.results18, go_sem, k0, k1]) rfl ⟨by rw [Hr.out], Hb1.out⟩
end Go.Proofs.Ytenbgfejonokdaa

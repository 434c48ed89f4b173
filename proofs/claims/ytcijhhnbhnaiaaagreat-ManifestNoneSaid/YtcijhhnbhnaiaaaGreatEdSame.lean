/- Are two states one? Are edits more than is looked at? Walked. -/
import Derived.Test.YtcijhhnbhnaiaaaGreatEdRest
namespace Go.Proofs.YtcijhhnbhnaiaaaGreat
set_option linter.unusedSimpArgs false
set_option linter.unusedVariables false
set_option maxRecDepth 100000
open Go.RowKit

theorem quiet_add {P : Program} {f : FuncId} {args : Array Value} {w : World} {a n : Nat} {v : Value}
    (h : Calls P f args (w.drewN (a + n)) fun e w' => e = .returned v ∧ ∃ m, w' = (w.drewN (a + n)).drewN m) :
    Calls P f args (w.drewN (a + n)) fun e w'' => e = .returned v ∧ ∃ m, w'' = w.drewN (a + m) :=
  h.mono fun _ _ ⟨he, m, hm⟩ => ⟨he, n + m, by rw [hm, World.drewN_drewN, Nat.add_assoc]⟩
open Classical in
noncomputable def sameB (a b : Ed.St) : Bool := decide (a = b)
theorem sameB_true {a b : Ed.St} (h : a = b) : sameB a b = true := by unfold sameB; exact @decide_eq_true _ (Classical.propDecidable _) h
theorem sameB_false {a b : Ed.St} (h : ¬ a = b) : sameB a b = false := by unfold sameB; exact @decide_eq_false _ (Classical.propDecidable _) h
theorem two_allocs (w : World) (t1 t2 : TypeId) (c1 c2 : Array Value) : ∀ w3, w3 = (w.alloc (.cells c1 t1 (0, 0))).alloc (.cells c2 t2 (0, 0)) → Blk w3 w.heap.size t1 c1 ∧ Blk w3 (w.heap.size + 1) t2 c2 ∧ Below w.heap.size w w3 := by
  intro w3 h
  obtain ⟨w1, h1⟩ : ∃ w1, w1 = w.alloc (.cells c1 t1 (0, 0)) := ⟨_, rfl⟩
  have z1 : w1.heap.size = w.heap.size + 1 := by rw [h1]; simp
  have b1 : Blk w1 w.heap.size t1 c1 := by rw [h1]; exact Blk.alloc_new w _ _
  have l1 : Below w.heap.size w w1 := by rw [h1]; exact (Below.refl _ _).alloc (Nat.le_refl _) _
  rw [← h1] at h
  have l2 : Below w1.heap.size w1 w3 := by rw [h]; exact (Below.refl _ _).alloc (Nat.le_refl _) _
  exact ⟨b1.below l2, by rw [h, ← z1]; exact Blk.alloc_new w1 _ _, l1.trans (l2.mono (by omega))⟩
set_option maxHeartbeats 4000000 in
theorem sameState_any (ta tb : Value) (a b : Ed.St) (w : World) (ha : RdT w ta a.l) (hb : RdT w tb b.l) (fa : Fits a.l) (fb : Fits b.l) :
    Calls Tryz.prog 12 #[stV ta a.log a.next, stV tb b.log b.next] w fun e w' => e = .returned (.bool (sameB a b)) ∧ Below w.heap.size w w' := by
  obtain ⟨w2, hw2⟩ : ∃ w2, w2 = (w.alloc (.cells #[ta, .int .i64 a.log, .int .i64 a.next] 28 (0, 0))).alloc (.cells #[tb, .int .i64 b.log, .int .i64 b.next] 28 (0, 0)) := ⟨_, rfl⟩
  obtain ⟨k1, k2, kb⟩ := two_allocs w _ _ _ _ w2 hw2
  have HA := Lib.hid (ha.below kb)
  have HB := Lib.hid (hb.below kb)
  obtain ⟨x, c, rfl, hxa⟩ := ha.below kb
  obtain ⟨y, d, rfl, hyb⟩ := hb.below kb
  have Hxa := Lib.hid hxa
  have Hyb := Lib.hid hyb
  have FA := Lib.hid fa
  have FB := Lib.hid fb
  obtain ⟨r, hr⟩ : ∃ r, r = sameB a b := ⟨_, rfl⟩
  rw [← hr]
  have HR := Lib.hid hr
  obtain ⟨la, ga, na⟩ := a
  obtain ⟨lb, gb, nb⟩ := b
  simp only at *
  obtain ⟨m, hm⟩ : ∃ m, m = la.length := ⟨_, rfl⟩
  obtain ⟨n, hn⟩ : ∃ n, n = lb.length := ⟨_, rfl⟩
  have hml : m ≤ maxLen := by rw [hm]; exact fa.len
  unfold maxLen at hml
  unfold stV
  rw [← hm, ← hn]
  rw [← hm] at hw2 k1
  rw [← hn] at hw2 k2
  have Hm := Lib.hid hm
  have Hn := Lib.hid hn
  have KB := Lib.hid kb
  have HW := Lib.hid hw2
  obtain ⟨a0, a1, a2, _, _, _⟩ := blk3 k1
  obtain ⟨b0, b1, b2, _, _, _⟩ := blk3 k2
  clear hm hn hw2 k1 k2 kb ha hb hxa hyb fa fb hr
  rw [HW.out] at a0 a1 a2 b0 b1 b2
  by_cases hal : ga = gb ∧ na = nb ∧ m = n
  case neg =>
    have HV := Lib.hid (show r = false by rw [HR.out]; exact sameB_false fun e => hal (by injection e with e1 e2 e3; exact ⟨e2, e3, by rw [Hm.out, Hn.out, e1]⟩))
    have hcase : ga ≠ gb ∨ (ga = gb ∧ na ≠ nb) ∨ (ga = gb ∧ na = nb ∧ (m : Int) ≠ n) := by
      by_cases h1 : ga = gb
      · by_cases h2 : na = nb
        · exact .inr (.inr ⟨h1, h2, fun e => hal ⟨h1, h2, by omega⟩⟩)
        · exact .inr (.inl ⟨h1, h2⟩)
      · exact .inl h1
    clear hal
    rcases hcase with h | ⟨rfl, h⟩ | ⟨rfl, rfl, h⟩
    all_goals
      have q := beq_eq_false_iff_ne.2 h
      go_enter Tryz.func12, Tryz.ntmps12
      go_wp2_with fail
      rw [← HW.out]
      go_ret
      rw [HV.out]
      exact ⟨rfl, KB.out⟩
  case pos =>
    obtain ⟨rfl, rfl, rfl⟩ := hal
    go_enter Tryz.func12, Tryz.ntmps12
    go_wp2_with fail
    rw [← HW.out] at a0 a1 a2 b0 b1 b2 ⊢
    go_loopw [5] (fun v5 wr => ∃ k q : Nat, v5 = .int .i64 k ∧ k ≤ m ∧ wr = w2.drewN q ∧ ∀ (j : Nat) (hj : j < la.length) (hj' : j < lb.length), j < k → la[j] = lb[j]) (fun v5 _ => m - (intOf v5).toNat)
    case atStart => exact ⟨0, 0, rfl, Nat.zero_le _, rfl, fun j _ _ h => absurd h (by omega)⟩
    case round =>
      obtain ⟨k, q, rfl, hk, rfl, hsm⟩ := hrel
      have Hsm := Lib.hid hsm
      clear hsm
      by_cases hlt : k < m
      · have hka : k < la.length := by rw [← Hm.out]; exact hlt
        have hkb : k < lb.length := by rw [← Hn.out]; exact hlt
        obtain ⟨p1, o1, t1, rfl, _, c0, c1, hr1⟩ := Hxa.out k hka
        obtain ⟨p2, o2, t2, rfl, _, d0, d1, hr2⟩ := Hyb.out k hkb
        have fa := (FA.out.each k hka).2
        have fb := (FB.out.each k hkb).2
        obtain ⟨f1, h1⟩ : ∃ f1, f1 = la[k].frm := ⟨_, rfl⟩
        obtain ⟨f2, h2⟩ : ∃ f2, f2 = lb[k].frm := ⟨_, rfl⟩
        obtain ⟨ts1, h3⟩ : ∃ ts1, ts1 = la[k].tabs := ⟨_, rfl⟩
        obtain ⟨ts2, h4⟩ : ∃ ts2, ts2 = lb[k].tabs := ⟨_, rfl⟩
        rw [← h1] at c0
        rw [← h2] at d0
        rw [← h3] at hr1 fa
        rw [← h4] at hr2 fb
        obtain ⟨sm, hsm⟩ : ∃ sm, sm = decide (ts1 = ts2) := ⟨_, rfl⟩
        have HS := Lib.hid (fun n : Nat => sameInts_any t1 t2 ts1 ts2 (w2.drewN n) (hr1.below (below_drewN (Below.refl _ _) n)) (hr2.below (below_drewN (Below.refl _ _) n)) fa fb)
        rw [← hsm] at HS
        obtain ⟨x1, y1, e1, _⟩ := hr1.form
        obtain ⟨x2, y2, e2, _⟩ := hr2.form
        obtain ⟨n1, hn1⟩ : ∃ n1, n1 = ts1.length := ⟨_, rfl⟩
        obtain ⟨n2, hn2⟩ : ∃ n2, n2 = ts2.length := ⟨_, rfl⟩
        rw [← hn1] at e1
        rw [← hn2] at e2
        subst e1 e2
        have H1 := Lib.hid h1
        have H2 := Lib.hid h2
        have H3 := Lib.hid h3
        have H4 := Lib.hid h4
        have HSM := Lib.hid hsm
        have Hlt := Lib.hid hlt
        have hk0 : (0 : Int) ≤ k := by omega
        have hkm : (k : Int) < m := by omega
        have hcell := Lib.hid (show la[k] = ⟨f1, ts1⟩ ∧ lb[k] = ⟨f2, ts2⟩ from by rw [h1, h2, h3, h4]; exact ⟨rfl, rfl⟩)
        have Hne := Lib.hid (fun (h : ¬ (f1 = f2 ∧ ts1 = ts2)) => show r = false from by
          rw [HR.out]
          refine sameB_false fun e => h ?_
          injection e with e1 _ _
          subst e1
          have := hcell.out.1.symm.trans hcell.out.2
          injection this with h5 h6
          exact ⟨h5, h6⟩)
        clear h1 h2 h3 h4 hsm hn1 hn2 hr1 hr2 fa fb
        by_cases hff : f1 = f2
        case neg =>
          have qq : (f1.toList == f2.toList) = false := by rw [beq_eq_false_iff_ne]; intro e; exact hff (bytes_ext (by rw [ByteArray.toList_eq, ByteArray.toList_eq] at e; exact e))
          have HV := Lib.hid (Hne.out fun h => hff h.1)
          clear hff
          go_wp2_with fail
          go_quiet (fail)
          go_wp2_with fail
          go_ret
          rw [HV.out]
          exact ⟨rfl, below_drewN (below_drewN KB.out _) _⟩
        case pos =>
          have qq : (f1.toList == f2.toList) = true := by rw [beq_iff_eq, hff]
          have HFF := Lib.hid hff
          clear hff
          cases hs : sm with
          | false =>
            rw [hs] at HS HSM
            have HV := Lib.hid (Hne.out fun h => by have := HSM.out; rw [decide_eq_true h.2] at this; cases this)
            clear hs
            go_wp2_with fail
            go_quiet ((go_at_call 28; first | exact quiet_add (HS.out _) | exact Calls.quiet_of (HS.out _)))
            go_wp2_with fail
            go_ret
            rw [HV.out]
            exact ⟨rfl, below_drewN (below_drewN KB.out _) _⟩
          | true =>
            rw [hs] at HS HSM
            have HEQ := Lib.hid (of_decide_eq_true HSM.out.symm)
            clear hs
            go_wp2_with fail
            go_quiet ((go_at_call 28; first | exact quiet_add (HS.out _) | exact Calls.quiet_of (HS.out _)))
            go_wp2_with fail
            go_roundw
            case rel => exact ⟨k + 1, q + nq, by go_num, by have := Hlt.out; omega, by first | rfl | rw [World.drewN_drewN], fun j hj hj' hjk => by
              by_cases e : j = k
              · subst e; rw [hcell.out.1, hcell.out.2, HFF.out, HEQ.out]
              · exact Hsm.out j hj hj' (by omega)⟩
            case measure => simp [intOf]; omega
      · obtain rfl : k = m := by omega
        have HV := Lib.hid (show r = true by
          rw [HR.out]
          have : la = lb := List.ext_getElem (by rw [← Hm.out, ← Hn.out]) fun j h1 h2 => Hsm.out j h1 h2 (by rw [Hm.out]; exact h1)
          exact sameB_true (by rw [this]))
        go_wp2_with fail
        go_ret
        rw [HV.out]
        exact ⟨rfl, below_drewN KB.out _⟩
/-- Edits that are looked at. -/
def SmallE (l : List Ed.Edit) (many : Int) : Prop := (l.length : Int) ≤ many ∧ ∀ (j : Nat) (hj : j < l.length), l[j].files.length ≤ 100 ∧ l[j].key.size ≤ 200
set_option maxHeartbeats 4000000 in
theorem beyond_any (v : Value) (l : List Ed.Edit) (many : Int) (w : World) (h : RdE w v l) (hl : l.length ≤ maxLen) (hok : ∀ (j : Nat) (hj : j < l.length), l[j].files.length ≤ maxLen ∧ l[j].key.size ≤ maxLen) :
    Calls Tryz.prog 4 #[v, .int .i64 many] w fun e w' => (∃ b : Nat, e = .returned (.bool (b == 1)) ∧ (b ≠ 1 → SmallE l many)) ∧ w = w' := by
  obtain ⟨x, c, rfl, hel⟩ := h
  have Hel := Lib.hid hel
  have Hok := Lib.hid hok
  unfold maxLen at hl
  obtain ⟨n, hn⟩ : ∃ n, n = l.length := ⟨_, rfl⟩
  rw [← hn] at hl ⊢
  have Hn := Lib.hid hn
  clear hel hok hn
  by_cases hmany : many < n
  case pos =>
    go_enter Tryz.func4, Tryz.ntmps4
    go_wp2_with fail
    go_ret
    exact ⟨⟨1, rfl, fun h => absurd rfl h⟩, rfl⟩
  case neg =>
    have hm2 : ¬ many < (n : Int) := hmany
    go_enter Tryz.func4, Tryz.ntmps4
    go_wp2_with fail
    go_loop [5] (fun v5 => ∃ k : Nat, v5 = .int .i64 k ∧ k ≤ n ∧ ∀ (j : Nat) (hj : j < l.length), j < k → l[j].files.length ≤ 100 ∧ l[j].key.size ≤ 200) (fun v5 => n - (intOf v5).toNat)
    case atStart => exact ⟨0, rfl, Nat.zero_le _, fun j _ h => absurd h (by omega)⟩
    case round =>
      obtain ⟨k, rfl, hk, hsm⟩ := hrel
      have Hsm := Lib.hid hsm
      clear hsm
      by_cases hlt : k < n
      · have hkl : k < l.length := by rw [← Hn.out]; exact hlt
        obtain ⟨b, off, fv, rfl, _, _, _, _, c3, c4, hr⟩ := Hel.out k hkl
        have hb := Hok.out k hkl
        obtain ⟨fx, fc, rfl, _⟩ := hr.form
        obtain ⟨e, he⟩ : ∃ e, e = l[k] := ⟨_, rfl⟩
        rw [← he] at c3 c4 hb
        obtain ⟨e1, e2, e3, e4, e5⟩ := e
        have HE := Lib.hid he
        simp only at c3 c4 hb
        obtain ⟨n1, n2⟩ := hb
        unfold maxLen at n1 n2
        clear he hr
        go_wp2_with fail
        all_goals first
          | (go_ret; exact ⟨⟨1, rfl, fun h => absurd rfl h⟩, rfl⟩)
          | (go_round
             case rel => exact ⟨k + 1, by go_num, by omega, fun j hj hjk => (by
               by_cases e : j = k
               · subst e; rw [← HE.out]; exact ⟨by show e4.length ≤ 100; omega, by show e5.size ≤ 200; omega⟩
               · exact Hsm.out j hj (by omega))⟩
             case measure => simp [intOf]; omega)
      · obtain rfl : k = n := by omega
        go_wp2_with fail
        go_ret
        exact ⟨⟨0, rfl, fun _ => ⟨by rw [← Hn.out]; omega, fun j hj => Hsm.out j hj (by rw [Hn.out]; exact hj)⟩⟩, rfl⟩
end Go.Proofs.YtcijhhnbhnaiaaaGreat

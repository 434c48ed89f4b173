/- The cursor of some bytes, by the program and by the document, walked. -/
import Derived.Test.YtenbgfejonokdaaCur
import Derived.BigQuiet
namespace Go.Proofs.Ytenbgfejonokdaa
set_option maxRecDepth 100000
open Go.RowKit

def got (g : Option (Nat × Nat)) : Nat × Nat × Bool := match g with | none => (0, 0, false) | some x => (x.1, x.2, true)
theorem gotE_eq (g : Option (Nat × Nat)) : gotE g = .returned (.tuple #[.int .i64 (got g).1, .int .i64 (got g).2.1, .bool (got g).2.2]) := by cases g <;> rfl
theorem got_le (s : List UInt8) (p : Nat) : (got (Var.get s p)).2.1 ≤ s.length := by
  cases h : Var.get s p with
  | none => exact Nat.zero_le _
  | some x => exact (Var.get_back (n := x.1) (e := x.2) h).1
/-- Where the reading stands: the two numbers, the place, is all well. -/
def st1 (s : List UInt8) (head : Bool) : Nat × Nat × Nat × Bool := if head then ((got (Var.get s 1)).1, 0, (got (Var.get s 1)).2.1, (got (Var.get s 1)).2.2) else (0, 0, 1, false)
def st2 (s : List UInt8) (x : Nat × Nat × Nat × Bool) : Nat × Nat × Nat × Bool := if x.2.2.2 then (x.1, (got (Var.get s x.2.2.1)).1, (got (Var.get s x.2.2.1)).2.1, (got (Var.get s x.2.2.1)).2.2) else x
def headB (s : List UInt8) : Bool := decide (s[0]? = some 67)
def endD (s : List UInt8) (x : Nat × Nat × Nat × Bool) : (Int × Int) × Int := if x.2.2.2 = true ∧ x.2.2.1 = s.length ∧ Cur.May x.1 x.2.1 then (((x.1 : Int), (x.2.1 : Int)), 0) else ((0, 0), 30)
theorem decR_eq (s : List UInt8) : Cur.decR s = endD s (st2 s (st1 s (headB s))) := by
  unfold Cur.decR Cur.dec headB
  by_cases h : s[0]? = some 67
  · rw [if_pos h, decide_eq_true h]
    cases h1 : Var.get s 1 with
    | none => simp [st1, st2, endD, h1, got]
    | some x =>
      obtain ⟨n, p⟩ := x
      simp only
      cases h2 : Var.get s p with
      | none => simp [st1, st2, endD, h1, h2, got]
      | some y =>
        obtain ⟨g, e⟩ := y
        simp only [st1, st2, endD, h1, h2, got, if_true, true_and]
        by_cases hh : e = s.length ∧ Cur.May n g
        · rw [if_pos hh, if_pos hh]
        · rw [if_neg hh, if_neg hh]
  · rw [if_neg h, decide_eq_false h]
    simp [st1, st2, endD]
theorem st1_at (s : List UInt8) (h : Bool) (hk : (st1 s h).2.2.2 = true) : (st1 s h).2.2.1 ≤ s.length := by
  unfold st1 at *
  split
  · exact got_le s 1
  · rename_i hh; rw [if_neg hh] at hk; cases hk
theorem dec_blocks (w : World) (nq : Nat) : ∀ w3, w3 = ((((w.alloc (.cells #[.int .i64 0, .int .i64 0] 23 (0, 0))).alloc (.cells #[.int .i64 0, .int .i64 0] 23 (0, 0))).drewN nq).alloc (.cells #[.pointer (some ⟨w.heap.size + 1, 0, none⟩), .pointer (some ⟨w.heap.size + 1, 1, none⟩)] 95 (0, 0))) →
    Blk w3 w.heap.size 23 #[.int .i64 0, .int .i64 0] ∧ Blk w3 (w.heap.size + 1) 23 #[.int .i64 0, .int .i64 0] ∧ Blk w3 (w.heap.size + 1 + 1) 95 #[.pointer (some ⟨w.heap.size + 1, 0, none⟩), .pointer (some ⟨w.heap.size + 1, 1, none⟩)] ∧ Below w.heap.size w w3 := by
  intro w3 h
  obtain ⟨w1, h1⟩ : ∃ w1, w1 = w.alloc (.cells #[.int .i64 0, .int .i64 0] 23 (0, 0)) := ⟨_, rfl⟩
  have z1 : w1.heap.size = w.heap.size + 1 := by rw [h1]; simp
  have b1 : Blk w1 w.heap.size 23 #[.int .i64 0, .int .i64 0] := by rw [h1]; exact Blk.alloc_new w _ _
  have l1 : Below w.heap.size w w1 := by rw [h1]; exact (Below.refl _ _).alloc (Nat.le_refl _) _
  rw [← h1] at h
  obtain ⟨w2, h2⟩ : ∃ w2, w2 = (w1.alloc (.cells #[.int .i64 0, .int .i64 0] 23 (0, 0))).drewN nq := ⟨_, rfl⟩
  have z2 : w2.heap.size = w.heap.size + 1 + 1 := by rw [h2, ← z1]; show (World.alloc _ _).heap.size = _; simp
  have b2 : Blk w2 (w.heap.size + 1) 23 #[.int .i64 0, .int .i64 0] := by rw [h2, ← z1]; exact Blk.drewN (Blk.alloc_new w1 _ _) nq
  have l2 : Below w1.heap.size w1 w2 := by rw [h2]; exact below_drewN ((Below.refl _ _).alloc (Nat.le_refl _) _) nq
  rw [← h2] at h
  have l3 : Below w2.heap.size w2 w3 := by rw [h]; exact (Below.refl _ _).alloc (Nat.le_refl _) _
  have b3 : Blk w3 (w.heap.size + 1 + 1) 95 #[.pointer (some ⟨w.heap.size + 1, 0, none⟩), .pointer (some ⟨w.heap.size + 1, 1, none⟩)] := by rw [h, ← z2]; exact Blk.alloc_new w2 _ _
  exact ⟨(b1.below l2).below l3, b2.below l3, b3, (l1.trans (l2.mono (by omega))).trans (l3.mono (by omega))⟩
theorem Blk.set_ne {w : World} {b : Nat} {t : TypeId} {cs : Array Value} (h : Blk w b t cs) (b' i : Nat) (u : Value) (hne : b ≠ b') : Blk (w.setCell ⟨b', i, none⟩ u) b t cs := by
  unfold Blk at *
  rw [Below.heap_setCell _ _ _ _ hne, h]
theorem cur_two {w : World} {b : Nat} {t : TypeId} {x y : Value} (h : Blk w b t #[x, y]) (u v : Value) : Blk ((w.setCell ⟨b, 0, none⟩ u).setCell ⟨b, 1, none⟩ v) b t #[u, v] := (h.set 0 u).set 1 v
set_option maxHeartbeats 2000000 in
theorem decode_any (s : ByteArray) (w : World) (hs : s.size ≤ maxLen) :
    Calls Try.prog 17 #[.string s] w fun e w' => e = .returned (.tuple #[curV (Cur.decR s.data.toList).1.1 (Cur.decR s.data.toList).1.2, .int .i64 (Cur.decR s.data.toList).2]) ∧ Below w.heap.size w w' := by
  have hl : s.data.toList.length = s.size := by simp
  have hsm : s.size ≤ 9223372036854775807 := by unfold maxLen at hs; omega
  have hfin := decR_eq s.data.toList
  have HG := Lib.hid (fun (p : Nat) (W : World) (hp : p ≤ s.data.toList.length) => get_any s p W hs (by omega))
  obtain ⟨hd, hhd⟩ : ∃ hd, hd = headB s.data.toList := ⟨_, rfl⟩
  rw [← hhd] at hfin
  obtain ⟨R, hR⟩ : ∃ R, R = Cur.decR s.data.toList := ⟨_, rfl⟩
  rw [← hR] at hfin ⊢
  unfold curV
  have HR := Lib.hid hfin
  clear hR
  have hh1 : hd = true → 1 ≤ s.data.toList.length := by
    intro e
    rw [hhd] at e
    unfold headB at e
    have := of_decide_eq_true e
    exact (List.getElem?_eq_some_iff.1 this).1
  have Hh1 := Lib.hid hh1
  have hq : (0 < s.size ∧ ((s.extract 0 1).toList == [67]) = hd) ∨ (s.size = 0 ∧ hd = false) := by
    rcases Nat.eq_zero_or_pos s.size with h | h
    · refine .inr ⟨h, ?_⟩
      cases hd with
      | false => rfl
      | true => have := hh1 rfl; omega
    · refine .inl ⟨h, ?_⟩
      rw [hhd]
      unfold headB
      have e : (s.extract 0 1).toList = s.data.toList.take 1 := by rw [ByteArray.toList_eq, extract_list]; simp
      rw [e]
      cases hc : s.data.toList with
      | nil => rw [hc] at hl; simp at hl; omega
      | cons c r => simp; rfl
  clear hh1 hhd hfin hl hs
  rcases hq with ⟨hz, q2⟩ | ⟨hz, hd0⟩
  case' inl =>
    have q1 : (1 : Int) ≤ s.size := by omega
    have q3 : decide ((0 : Int) < s.size) = true := decide_eq_true (by omega)
    have q3' : decide (0 < s.size) = true := decide_eq_true (by omega)
    go_enter Try.func17, Try.ntmps17
    go_wp2_with fail
    go_quiet (fail)
    have Hd0 := Lib.hid (rfl : hd = hd)
    clear q1 q2 q3 q3' hz
  case' inr =>
    have q3 : decide ((0 : Int) < s.size) = false := decide_eq_false (by omega)
    have q3' : decide (0 < s.size) = false := decide_eq_false (by omega)
    go_enter Try.func17, Try.ntmps17
    go_wp2_with fail
    go_quiet (fail)
    have Hd0 := Lib.hid hd0.symm
    clear q3 q3' hz hd0
  all_goals
    go_wp2_with fail
    have hdb := dec_blocks w nq
    obtain ⟨w3, hw3⟩ : ∃ w3, w3 = ((((w.alloc (.cells #[.int .i64 0, .int .i64 0] 23 (0, 0))).alloc (.cells #[.int .i64 0, .int .i64 0] 23 (0, 0))).drewN nq).alloc (.cells #[.pointer (some ⟨w.heap.size + 1, 0, none⟩), .pointer (some ⟨w.heap.size + 1, 1, none⟩)] 95 (0, 0))) := ⟨_, rfl⟩
    rw [← hw3]
    have HDB := Lib.hid (hdb w3 hw3)
    clear hdb hw3
    go_loopw [5, 6, 8, 21] (fun v5 v6 _ v21 wr => ∃ (k n0 n1 p : Nat) (ok : Bool), k ≤ 2 ∧ v21 = .int .i64 k ∧ v5 = .int .i64 p ∧ v6 = .bool ok ∧ ((k = 0 ∧ (n0, n1, p, ok) = (0, 0, 1, hd)) ∨ (k = 1 ∧ (n0, n1, p, ok) = st1 s.data.toList hd) ∨ (k = 2 ∧ (n0, n1, p, ok) = st2 s.data.toList (st1 s.data.toList hd))) ∧
      Blk wr w.heap.size 23 #[.int .i64 0, .int .i64 0] ∧ Blk wr (w.heap.size + 1) 23 #[.int .i64 n0, .int .i64 n1] ∧ Blk wr (w.heap.size + 1 + 1) 95 #[.pointer (some ⟨w.heap.size + 1, 0, none⟩), .pointer (some ⟨w.heap.size + 1, 1, none⟩)] ∧ Below w.heap.size w wr) (fun _ _ _ v21 _ => 2 - (intOf v21).toNat)
    case atStart => exact ⟨0, 0, 0, 1, _, by omega, rfl, rfl, rfl, .inl ⟨rfl, by first | rfl | rw [Hd0.out]⟩, HDB.out.1, HDB.out.2.1, HDB.out.2.2.1, HDB.out.2.2.2⟩
    case round =>
      obtain ⟨k, n0, n1, p, ok, hk, rfl, rfl, rfl, hst, b0, b1, b2, hbe⟩ := hrel
      have c0 := b1.cell 0
      have c1 := b1.cell 1
      have f0 := b1.free 0
      have f1 := b1.free 1
      have g0 := b2.cell 0
      have g1 := b2.cell 1
      simp at c0 c1 g0 g1
      have B0 := Lib.hid b0
      have B1 := Lib.hid b1
      have B2 := Lib.hid b2
      have Hbe := Lib.hid hbe
      clear b0 b1 b2 hbe
      rcases hst with ⟨rfl, he⟩ | ⟨rfl, he⟩ | ⟨rfl, he⟩
      · simp only [Prod.mk.injEq] at he
        obtain ⟨rfl, rfl, rfl, rfl⟩ := he
        cases hok : ok with
        | false =>
          have Hst := Lib.hid (show ((0 : Nat), (0 : Nat), (1 : Nat), false) = st1 s.data.toList false from rfl)
          clear hok
          go_wp2_with fail
          go_roundw
          case rel => exact ⟨1, 0, 0, 1, false, by omega, by go_num, rfl, rfl, .inr (.inl ⟨rfl, Hst.out⟩), B0.out, B1.out, B2.out, Hbe.out⟩
          case measure => simp [intOf]
        | true =>
          have hg := HG.out 1 wr (Hh1.out hok)
          rw [gotE_eq] at hg
          have Hst := Lib.hid (show ((got (Var.get s.data.toList 1)).1, (0 : Nat), (got (Var.get s.data.toList 1)).2.1, (got (Var.get s.data.toList 1)).2.2) = st1 s.data.toList true from rfl)
          generalize got (Var.get s.data.toList 1) = G at hg Hst
          obtain ⟨n, e, o⟩ := G
          have Hg := Lib.hid hg
          clear hg hok
          go_wp2_with fail
          refine Hg.out.mono ?_
          rintro e' w4 ⟨rfl, rfl⟩
          go_wp2_with fail
          have H1 := Lib.hid (B1.out.set 0 (.int .i64 n))
          have H0 := Lib.hid (Blk.set_ne B0.out (w.heap.size + 1) 0 (.int .i64 n) (by omega))
          have H2 := Lib.hid (Blk.set_ne B2.out (w.heap.size + 1) 0 (.int .i64 n) (by omega))
          go_roundw
          case rel => exact ⟨1, n, 0, e, o, by omega, by go_num, rfl, rfl, .inr (.inl ⟨rfl, Hst.out⟩), H0.out, H1.out, H2.out, Hbe.out.setCell (p := ⟨w.heap.size + 1, 0, none⟩) (by show _ ≤ w.heap.size + 1; omega) _⟩
          case measure => simp [intOf]
      · cases hok : ok with
        | false =>
          have Hst := Lib.hid (show (n0, n1, p, false) = st2 s.data.toList (st1 s.data.toList hd) from by rw [← he, hok]; rfl)
          clear hok he
          go_wp2_with fail
          go_roundw
          case rel => exact ⟨2, n0, n1, p, false, by omega, by go_num, rfl, rfl, .inr (.inr ⟨rfl, Hst.out⟩), B0.out, B1.out, B2.out, Hbe.out⟩
          case measure => simp [intOf]
        | true =>
          have hp : p ≤ s.data.toList.length := by
            have := st1_at s.data.toList hd (by rw [← he]; exact hok)
            rw [← he] at this
            exact this
          have hg := HG.out p wr hp
          rw [gotE_eq] at hg
          have Hst := Lib.hid (show (n0, (got (Var.get s.data.toList p)).1, (got (Var.get s.data.toList p)).2.1, (got (Var.get s.data.toList p)).2.2) = st2 s.data.toList (st1 s.data.toList hd) from by rw [← he, hok]; rfl)
          generalize got (Var.get s.data.toList p) = G at hg Hst
          obtain ⟨n, e, o⟩ := G
          have Hg := Lib.hid hg
          clear hg hok he hp
          go_wp2_with fail
          refine Hg.out.mono ?_
          rintro e' w4 ⟨rfl, rfl⟩
          go_wp2_with fail
          have H1 := Lib.hid (B1.out.set 1 (.int .i64 n))
          have H0 := Lib.hid (Blk.set_ne B0.out (w.heap.size + 1) 1 (.int .i64 n) (by omega))
          have H2 := Lib.hid (Blk.set_ne B2.out (w.heap.size + 1) 1 (.int .i64 n) (by omega))
          go_roundw
          case rel => exact ⟨2, n0, n, e, o, by omega, by go_num, rfl, rfl, .inr (.inr ⟨rfl, Hst.out⟩), H0.out, H1.out, H2.out, Hbe.out.setCell (p := ⟨w.heap.size + 1, 1, none⟩) (by show _ ≤ w.heap.size + 1; omega) _⟩
          case measure => simp [intOf]
      · have hr := HR.out
        rw [← he] at hr
        unfold endD at hr
        simp only at hr
        clear he
        have e0 := B0.out.cell 0
        have e1 := B0.out.cell 1
        have h0 := B0.out.free 0
        have h1 := B0.out.free 1
        simp at e0 e1
        have HW0 := Lib.hid (cur_two B0.out (.int .i64 0) (.int .i64 0))
        have HWb0 := Lib.hid ((Hbe.out.setCell (p := ⟨w.heap.size, 0, none⟩) (Nat.le_refl _) (.int .i64 0)).setCell (p := ⟨w.heap.size, 1, none⟩) (Nat.le_refl _) (.int .i64 0))
        have hl' : s.data.toList.length = s.size := by simp
        cases hok : ok with
        | false =>
          rw [if_neg (by rw [hok]; simp)] at hr
          have Hr := Lib.hid hr
          clear hr hok hl'
          go_wp2_with fail
          generalize ((wr.setCell ⟨w.heap.size, 0, none⟩ (.int .i64 0)).setCell ⟨w.heap.size, 1, none⟩ (.int .i64 0)) = w4 at HW0 HWb0 ⊢
          have k0 := HW0.out.cell 0
          have k1 := HW0.out.cell 1
          simp at k0 k1
          refine bodyPost_ret (v := .tuple #[.agg #[.int .i64 0, .int .i64 0], .int .i64 30]) (by simp [results, Try.results17, go_sem, k0, k1]) rfl ⟨by rw [Hr.out], HWb0.out⟩
        | true =>
          have Hl := Lib.hid hl'
          by_cases hpe : p = s.size
          · have qp : ((p : Int) != s.size) = false := by rw [hpe]; simp
            have qp' : (p != s.size) = false := by rw [hpe]; simp
            have hmay := fun W : World => may_any (n0 : Int) (n1 : Int) W
            unfold curV at hmay
            by_cases hm : Cur.May n0 n1
            · rw [if_pos ⟨hok, by rw [Hl.out]; exact hpe, hm⟩] at hr
              rw [decide_eq_true hm] at hmay
              have Hr := Lib.hid hr
              have Hm := Lib.hid hmay
              clear hr hok hmay hm hpe hl'
              go_wp2_with fail
              refine (Hm.out _).mono ?_
              rintro e w5 ⟨rfl, hb5⟩
              have c0' := (hb5.cell (p := ⟨w.heap.size + 1, 0, none⟩) B1.out.lt).trans c0
              have c1' := (hb5.cell (p := ⟨w.heap.size + 1, 1, none⟩) B1.out.lt).trans c1
              have b5 := B0.out.below hb5
              have h0' := b5.free 0
              have h1' := b5.free 1
              have e0' := b5.cell 0
              have e1' := b5.cell 1
              simp at e0' e1'
              have HW5 := Lib.hid (cur_two b5 (.int .i64 n0) (.int .i64 n1))
              have HWb5 := Lib.hid ((((Hbe.out.trans (hb5.mono Hbe.out.size))).setCell (p := ⟨w.heap.size, 0, none⟩) (Nat.le_refl _) (.int .i64 n0)).setCell (p := ⟨w.heap.size, 1, none⟩) (Nat.le_refl _) (.int .i64 n1))
              clear hb5 b5
              go_wp2_with fail
              generalize ((w5.setCell ⟨w.heap.size, 0, none⟩ (.int .i64 n0)).setCell ⟨w.heap.size, 1, none⟩ (.int .i64 n1)) = w4 at HW5 HWb5 ⊢
              have k0 := HW5.out.cell 0
              have k1 := HW5.out.cell 1
              simp at k0 k1
              refine bodyPost_ret (v := .tuple #[.agg #[.int .i64 n0, .int .i64 n1], .int .i64 0]) (by simp [results, Try.results17, go_sem, k0, k1]) rfl ⟨by rw [Hr.out], HWb5.out⟩
            · rw [if_neg (fun e => hm e.2.2)] at hr
              rw [decide_eq_false hm] at hmay
              have Hr := Lib.hid hr
              have Hm := Lib.hid hmay
              clear hr hok hmay hm hpe hl'
              go_wp2_with fail
              refine (Hm.out _).mono ?_
              rintro e w5 ⟨rfl, hb5⟩
              have b5 := B0.out.below hb5
              have h0' := b5.free 0
              have h1' := b5.free 1
              have e0' := b5.cell 0
              have e1' := b5.cell 1
              simp at e0' e1'
              have HW5 := Lib.hid (cur_two b5 (.int .i64 0) (.int .i64 0))
              have HWb5 := Lib.hid ((((Hbe.out.trans (hb5.mono Hbe.out.size))).setCell (p := ⟨w.heap.size, 0, none⟩) (Nat.le_refl _) (.int .i64 0)).setCell (p := ⟨w.heap.size, 1, none⟩) (Nat.le_refl _) (.int .i64 0))
              clear hb5 b5
              go_wp2_with fail
              generalize ((w5.setCell ⟨w.heap.size, 0, none⟩ (.int .i64 0)).setCell ⟨w.heap.size, 1, none⟩ (.int .i64 0)) = w4 at HW5 HWb5 ⊢
              have k0 := HW5.out.cell 0
              have k1 := HW5.out.cell 1
              simp at k0 k1
              refine bodyPost_ret (v := .tuple #[.agg #[.int .i64 0, .int .i64 0], .int .i64 30]) (by simp [results, Try.results17, go_sem, k0, k1]) rfl ⟨by rw [Hr.out], HWb5.out⟩
          · have qp : ((p : Int) != s.size) = true := by rw [bne_iff_ne]; omega
            have qp' : (p != s.size) = true := by rw [bne_iff_ne]; exact hpe
            rw [if_neg (fun e => hpe (by rw [← Hl.out]; exact e.2.1))] at hr
            have Hr := Lib.hid hr
            clear hr hok hpe hl'
            go_wp2_with fail
            generalize ((wr.setCell ⟨w.heap.size, 0, none⟩ (.int .i64 0)).setCell ⟨w.heap.size, 1, none⟩ (.int .i64 0)) = w4 at HW0 HWb0 ⊢
            have k0 := HW0.out.cell 0
            have k1 := HW0.out.cell 1
            simp at k0 k1
            refine bodyPost_ret (v := .tuple #[.agg #[.int .i64 0, .int .i64 0], .int .i64 30]) (by simp [results, Try.results17, go_sem, k0, k1]) rfl ⟨by rw [Hr.out], HWb0.out⟩
end Go.Proofs.Ytenbgfejonokdaa

/- Edits read from bytes, walked. -/
import Derived.Test.YtcijhhnbhnaiaaaGreatEdOwnE
import Derived.Test.YtcijhhnbhnaiaaaGreatEdEnc2
namespace Go.Proofs.YtcijhhnbhnaiaaaGreat
set_option linter.unusedSimpArgs false
set_option linter.unusedVariables false
set_option maxRecDepth 100000
open Go.RowKit

theorem three_cells' {w : World} {t : TypeId} {a b c : Value} : ∀ w1, w1 = w.alloc (.cells #[a, b, c] t (0, 0)) → Blk w1 w.heap.size t #[a, b, c] ∧ Below w.heap.size w w1 := fun w1 h => by
  rw [h]; exact ⟨Blk.alloc_new w _ _, (Below.refl _ _).alloc (Nat.le_refl _) _⟩
def NumR (s : List UInt8) (p : Nat) (b : Bool) (n p' : Nat) (b' : Bool) : Prop := Var.get s p = some (n, p') ∧ b' = b ∧ p < p' ∨ Var.get s p = none ∧ n = 0 ∧ p' = p ∧ b' = true
def LstR (s : List UInt8) (p : Nat) (b : Bool) (l : List Int) (p' : Nat) (b' : Bool) : Prop := b = false ∧ b' = false ∧ Ed.lst s p = some (l, p') ∨ b' = true ∧ (b = true ∨ Ed.lst s p = none)
def TxtR (s : List UInt8) (p : Nat) (b : Bool) (t : List UInt8) (p' : Nat) (b' : Bool) : Prop := Ed.txt s p = some (t, p') ∧ b' = b ∧ p < p' ∨ Ed.txt s p = none ∧ t = [] ∧ p' = p ∧ b' = true
theorem NumR.le {s : List UInt8} {p n p' : Nat} {b b' : Bool} (h : NumR s p b n p' b') : p ≤ p' ∧ (b = true → b' = true) := by
  rcases h with ⟨_, h1, h2⟩ | ⟨_, _, h1, h2⟩
  · exact ⟨by omega, fun h => h1.trans h⟩
  · exact ⟨by omega, fun _ => h2⟩
theorem TxtR.le {s : List UInt8} {p p' : Nat} {t : List UInt8} {b b' : Bool} (h : TxtR s p b t p' b') : p ≤ p' ∧ (b = true → b' = true) := by
  rcases h with ⟨_, h1, h2⟩ | ⟨_, _, h1, h2⟩
  · exact ⟨by omega, fun h => h1.trans h⟩
  · exact ⟨by omega, fun _ => h2⟩
theorem LstR.up {s : List UInt8} {p p' : Nat} {l : List Int} {b b' : Bool} (h : LstR s p b l p' b') : b = true → b' = true := by
  rcases h with ⟨h1, _⟩ | ⟨h1, _⟩
  · intro h; rw [h1] at h; cases h
  · exact fun _ => h1
theorem edt_join {s : List UInt8} {q a q1 c q2 f q3 q4 q5 : Nat} {l : List Int} {t : List UInt8} {b1 b2 b3 b4 b5 : Bool}
    (h1 : NumR s q false a q1 b1) (h2 : NumR s q1 b1 c q2 b2) (h3 : NumR s q2 b2 f q3 b3) (h4 : LstR s q3 b3 l q4 b4) (h5 : TxtR s q4 b4 t q5 b5) :
    b5 = false ∧ Ed.edt s q = some (⟨a, c, f, l, ⟨t.toArray⟩⟩, q5) ∨ b5 = true ∧ Ed.edt s q = none := by
  unfold Ed.edt
  rcases h1 with ⟨e1, f1, _⟩ | ⟨e1, _, _, f1⟩
  case inr =>
    right
    rw [e1]
    exact ⟨h5.le.2 (h4.up (h3.le.2 (h2.le.2 f1))), rfl⟩
  rw [e1]
  simp only
  rcases h2 with ⟨e2, f2, _⟩ | ⟨e2, _, _, f2⟩
  case inr =>
    right
    rw [e2]
    exact ⟨h5.le.2 (h4.up (h3.le.2 f2)), rfl⟩
  rw [e2]
  simp only
  rcases h3 with ⟨e3, f3, _⟩ | ⟨e3, _, _, f3⟩
  case inr =>
    right
    rw [e3]
    exact ⟨h5.le.2 (h4.up f3), rfl⟩
  rw [e3]
  simp only
  have f4 : b3 = false := by rw [f3, f2, f1]
  rcases h4 with ⟨_, g4, e4⟩ | ⟨g4, e4⟩
  case inr =>
    right
    rcases e4 with e4 | e4
    · rw [f4] at e4; cases e4
    · rw [e4]; exact ⟨h5.le.2 g4, rfl⟩
  rw [e4]
  simp only
  rcases h5 with ⟨e5, f5, _⟩ | ⟨e5, _, _, f5⟩
  · left
    rw [e5]
    exact ⟨by rw [f5, g4], rfl⟩
  · right
    rw [e5]
    exact ⟨f5, rfl⟩
theorem OwnI.ix {w : World} {B B0 : Nat} {o : Option Nat} {v : Value} {l : List Int} (h : OwnI w B0 v l) (hB : B ≤ B0) (ho : ∀ g, o = some g → g < B0) : RdIX w B o v l := by
  have hlt := World.ownsRow.lt h
  rcases h.2 with ⟨rfl, h2⟩ | ⟨g, cap, cur, hv, hg, _⟩
  · exact .inl ⟨none, 0, rfl, List.length_eq_zero_iff.1 h2⟩
  · rcases h.rd with h1 | ⟨b, off, c, h1, h2, h3⟩
    · exact .inl h1
    · have hb := hlt b (by rw [h1]; rfl)
      exact .inr ⟨b, off, c, h1, by omega, h2, fun e => by have := ho b e; omega, h3⟩
theorem OwnI.one {w : World} {B0 : Nat} {v : Value} {l : List Int} (h : OwnI w B0 v l) : v.oneCell' = true := by
  rcases h.2 with ⟨rfl, h2⟩ | ⟨g, cap, cur, hv, hg, _⟩
  · rfl
  · rw [hv]; rfl
theorem OwnEd.lt {w : World} {B : Nat} {v : Value} {l : List Ed.Edit} (h : OwnEd w B v l) : ∀ g, v.ownBlock = some g → B ≤ g ∧ g < w.heap.size := by
  obtain ⟨fvs, h1, h2, _⟩ := h
  exact World.ownsRow.lt h2
theorem blk_row {w : World} {g : Nat} {t : TypeId} {cs : Array Value} {row : List Value} (h : Blk w g t cs) (hr : cs.toList = row) : ∀ i u, row[i]? = some u → w.cell? ⟨g, i, none⟩ = some u := fun i u hu => by
  rw [h.cell i, ← Array.getElem?_toList, hr]; exact hu
/-- What a decoder of edits answers. -/
def DecPost (s : ByteArray) (w : World) (e : Ending) (w' : World) : Prop :=
  Below w.heap.size w w' ∧ ((∃ v out, e = .returned (.tuple #[v, .int .i64 0]) ∧ RdE w' v out ∧ Ed.decE s.data.toList = some (out, s.size) ∧ encAB out = s) ∨
    (e = .returned (.tuple #[.slice none 0 0, .int .i64 30]) ∧ ¬ ∃ out, Ed.decE s.data.toList = some (out, s.size) ∧ encAB out = s))
set_option maxHeartbeats 8000000 in
theorem decode_ed (s : ByteArray) (w : World) (hs : s.size ≤ 1000000) (hfit : ∀ out, Ed.decE s.data.toList = some (out, s.size) → out.length ≤ 1000 ∧ ∀ e ∈ out, EncFit e) :
    Calls Tryz.prog 53 #[.string s] w (DecPost s w) := by
  have HN := Lib.hid (fun (W : World) (r q : Nat) (b : Bool) (hW : Rdr W r s q b) (hq : q ≤ s.size) => number_any r s q b W hW (by unfold maxLen; omega) hq)
  have HL := Lib.hid (fun (W : World) (r q : Nat) (b : Bool) (hW : Rdr W r s q b) (hq : q ≤ s.size) => rlist_any r s q b W hW hs hq)
  have HT := Lib.hid (fun (W : World) (r q : Nat) (b : Bool) (hW : Rdr W r s q b) (hq : q ≤ s.size) => text_any r s q b W hW (by unfold maxLen; omega) hq)
  have HWH := Lib.hid (fun (W : World) (r q : Nat) (b : Bool) (hW : Rdr W r s q b) => whole_any r s q b W hW (by unfold maxLen; omega))
  have HFIT := Lib.hid hfit
  have HS := Lib.hid hs
  clear hfit
  go_enter Tryz.func53, Tryz.ntmps53
  go_wp2_with fail
  obtain ⟨w1, hw1⟩ : ∃ w1, w1 = w.alloc (.cells #[.string s, .int .i64 0, .bool false] 105 (0, 0)) := ⟨_, rfl⟩
  rw [← hw1]
  obtain ⟨r, hr⟩ : ∃ r, r = w.heap.size := ⟨_, rfl⟩
  obtain ⟨kb, kbe⟩ := three_cells' w1 hw1
  rw [← hr] at kb ⊢
  have HR1 := Lib.hid (show Rdr w1 r s 0 false from kb)
  have HB1 := Lib.hid kbe
  have HRW := Lib.hid hr
  clear hw1 kb kbe hr
  refine (HN.out w1 r 0 false HR1.out (Nat.zero_le _)).mono ?_
  rintro e w2 ⟨n, q, b, rfl, hr2, hc2, hn, hq, hcase⟩
  have HR2 := Lib.hid hr2
  have HC2 := Lib.hid hc2
  have HCase := Lib.hid hcase
  clear hr2 hc2 hcase
  have HBB := Lib.hid (show Below w.heap.size w w2 from HB1.out.trans (HC2.out.below HB1.out.size fun g hg e => by have := HRW.out; omega))
  go_wp2_with fail
  go_loopw [5, 6] (fun v5 v6 wr => ∃ (out : List Ed.Edit) (k q : Nat) (b : Bool), v6 = .int .i64 k ∧ k < 9223372036854775808 ∧ OwnEd wr (r + 1) v5 out ∧ Rdr wr r s q b ∧ Below w.heap.size w wr ∧ q ≤ s.size ∧
    (b = false ∧ out.length + 1 ≤ q ∧ Ed.decE s.data.toList = Ed.runE s.data.toList k q out ∨ b = true ∧ out.length ≤ q ∧ Ed.decE s.data.toList = none)) (fun _ v6 _ => (intOf v6).toNat)
  case atStart =>
    refine ⟨[], n, q, b, rfl, hn, OwnEd.nil _ _, HR2.out, HBB.out, hq, ?_⟩
    rcases HCase.out with ⟨h1, h2, h3⟩ | ⟨h1, h2, h3, h4⟩
    · exact .inl ⟨h2, by simp; omega, by unfold Ed.decE; rw [h1]⟩
    · exact .inr ⟨h4, Nat.zero_le _, by unfold Ed.decE; rw [h1]⟩
  case round =>
    obtain ⟨out, k, q0, b0, rfl, hk, hown, hrr, hbe, hqs, hrel⟩ := hrel
    have Hown := Lib.hid hown
    have Hrr := Lib.hid hrr
    have Hbe := Lib.hid hbe
    have Hrel := Lib.hid hrel
    obtain ⟨c0, c1, c2, _⟩ := rdr_cells hrr
    clear hown hrr hbe hrel
    by_cases hgo : 0 < k ∧ b0 = false
    · obtain ⟨hk0, rfl⟩ := hgo
      have hk1 : (0 : Int) < k := by omega
      go_wp2_with fail
      refine (HN.out wr r q0 false Hrr.out hqs).mono ?_
      rintro e x1 ⟨n1, q1, b1, rfl, hr1, hx1, hn1, hq1, hc1⟩
      have Hr1 := Lib.hid hr1
      have Hx1 := Lib.hid hx1
      have Hc1 := Lib.hid hc1
      clear hr1 hx1 hc1 c0 c1 c2
      go_wp2_with fail
      refine (HN.out x1 r q1 b1 Hr1.out hq1).mono ?_
      rintro e x2 ⟨n2, q2, b2, rfl, hr1, hx1, hn2, hq2, hc1⟩
      have Hr2 := Lib.hid hr1
      have Hx2 := Lib.hid (Hx1.out.trans hx1)
      have Hc2 := Lib.hid hc1
      clear hr1 hx1 hc1
      go_wp2_with fail
      refine (HN.out x2 r q2 b2 Hr2.out hq2).mono ?_
      rintro e x3 ⟨n3, q3, b3, rfl, hr1, hx1, hn3, hq3, hc1⟩
      have Hr3 := Lib.hid hr1
      have Hx3 := Lib.hid (Hx2.out.trans hx1)
      have Hc3 := Lib.hid hc1
      clear hr1 hx1 hc1
      go_wp2_with fail
      refine (HL.out x3 r q3 b3 Hr3.out hq3).mono ?_
      rintro e x4 ⟨lv, fl, q4, b4, rfl, hol, hr1, hx1, hq34, hq4, hll, hfl, hc1⟩
      obtain ⟨lx, lc, hlv, _⟩ := hol.rd.form
      obtain ⟨ln, hln⟩ : ∃ ln, ln = fl.length := ⟨_, rfl⟩
      rw [← hln] at hlv
      subst hlv
      have Hr4 := Lib.hid hr1
      have Hx4 := Lib.hid (Hx3.out.trans hx1)
      have Hc4 := Lib.hid hc1
      have hrw : r < wr.heap.size := Blk.lt Hrr.out
      have hz3 := Hx3.out.size
      have Hlv := Lib.hid (show RdIX x4 (r + 1) u5.ownBlock (.slice lx ln lc) fl from hol.ix (by omega) (fun g hg => by have := (Hown.out.lt g hg).2; omega))
      have Hone := Lib.hid hol.one
      clear hr1 hx1 hc1 hol hln
      go_wp2_with fail
      refine (HT.out x4 r q4 b4 Hr4.out hq4).mono ?_
      rintro e x5 ⟨tx, q5, b5, rfl, hr1, hx1, htl, hq5, hc1⟩
      have Hr5 := Lib.hid hr1
      have Hx5 := Lib.hid (Hx4.out.trans hx1)
      have Hlv5 := Lib.hid (Hlv.out.chg hx1 (fun g e => by omega))
      have Hown5 := Lib.hid (Hown.out.chg Hx5.out (fun g e => by omega))
      have Hj := Lib.hid (edt_join Hc1.out Hc2.out Hc3.out Hc4.out hc1)
      have hle : q0 ≤ q5 := by
        have h1 := (NumR.le Hc1.out).1
        have h2 := (NumR.le Hc2.out).1
        have h3 := (NumR.le Hc3.out).1
        have h5 := (TxtR.le hc1).1
        omega
      have hlt5 : b5 = false → q0 < q5 := by
        intro hb
        rcases Hc1.out with ⟨_, _, h⟩ | ⟨_, _, _, h⟩
        · have h2 := (NumR.le Hc2.out).1
          have h3 := (NumR.le Hc3.out).1
          have h5 := (TxtR.le hc1).1
          omega
        · have := (TxtR.le hc1).2 (LstR.up Hc4.out ((NumR.le Hc3.out).2 ((NumR.le Hc2.out).2 h)))
          rw [hb] at this; cases this
      have Hlt5 := Lib.hid hlt5
      have hz5 := Hx5.out.size
      have hsz := Hbe.out.size
      have Hbe5 := Lib.hid (Hbe.out.trans (Hx5.out.below hsz fun g hg e => by have := HRW.out; omega))
      have hol : out.length + 1 ≤ 1000000 := by
        have := HS.out
        rcases Hrel.out with ⟨_, h, _⟩ | ⟨h, _⟩
        · omega
        · cases h
      have Hown6 := Lib.hid (fun o => Hown5.out.chg (S := fun _ => False) ((Chg.refl _ x5).alloc o) (fun _ h => h.elim))
      have Hlv6 := Lib.hid (fun o => Hlv5.out.chg (S := fun _ => False) ((Chg.refl _ x5).alloc o) (fun _ h => h.elim))
      have Hbel6 := Lib.hid (fun o => (Below.refl x5.heap.size x5).alloc (Nat.le_refl _) o)
      have hr15 : r + 1 ≤ x5.heap.size := by omega
      clear hr1 hx1 hc1 hlt5
      go_wp2_with (at_builtin; refine wpList_append_ed rfl (.tmp 23) (.tmp 35) rfl (r + 1) _ out rfl (Hown6.out _) x5.heap.size rfl ⟨n1, n2, n3, fl, ⟨tx.toArray⟩⟩ (.slice lx ln lc) (blk_row (Blk.alloc_new x5 _ _) rfl) (Hlv6.out _) Hone.out hol (by simp; omega) ?_; intro v2 w7 hown hbel; have Hown7 := Lib.hid hown; have Hbel7 := Lib.hid (((Hbel6.out _).mono hr15).trans hbel); clear hown hbel)
      go_roundw
      case rel =>
        refine ⟨_, k - 1, q5, b5, by go_num, by omega, Hown7.out, Hr5.out.belowB Hbel7.out (Nat.lt_succ_self r), Hbe5.out.trans (Hbel7.out.mono (by have := HRW.out; omega)), hq5, ?_⟩
        obtain ⟨j, rfl⟩ : ∃ j, k = j + 1 := ⟨k - 1, by omega⟩
        rcases Hrel.out with ⟨_, h2, h3⟩ | ⟨h1, _⟩
        · unfold Ed.runE at h3
          rcases Hj.out with ⟨g1, g2⟩ | ⟨g1, g2⟩
          · rw [g2] at h3
            exact .inl ⟨g1, by have := Hlt5.out g1; rw [List.length_append]; simp; omega, h3⟩
          · rw [g2] at h3
            exact .inr ⟨g1, by rw [List.length_append]; simp; omega, h3⟩
        · cases h1
      case measure => simp [intOf]; omega
    · have hz0 : r < wr.heap.size := Blk.lt Hrr.out
      by_cases hw : b0 = false ∧ q0 = s.size
      · obtain ⟨rfl, hqe⟩ := hw
        obtain rfl : k = 0 := by
          rcases Nat.eq_zero_or_pos k with h | h
          · exact h
          · exact absurd ⟨h, rfl⟩ hgo
        have Hd := Lib.hid (show Ed.decE s.data.toList = some (out, s.size) from by
          rcases Hrel.out with ⟨_, _, h⟩ | ⟨h, _⟩
          · rw [h, ← hqe]; rfl
          · cases h)
        have HV := Lib.hid (show (!false && decide (q0 = s.size)) = true from by rw [hqe]; simp)
        go_wp2_with fail
        refine (HWH.out wr r q0 false Hrr.out).mono ?_
        rintro e x1 ⟨rfl, m, hx1⟩
        rw [HV.out]
        have hbx : Below wr.heap.size wr x1 := by rw [hx1]; exact below_drewN (Below.refl _ _) _
        have Hbx := Lib.hid (Hbe.out.trans (hbx.mono Hbe.out.size))
        have HRE := Lib.hid (Hown.out.rd.below hbx)
        have HEN := Lib.hid (encode_ed _ out x1 HRE.out (HFIT.out out Hd.out).1 (HFIT.out out Hd.out).2)
        obtain ⟨X, hX⟩ : ∃ X, X = encAB out := ⟨_, rfl⟩
        rw [← hX] at HEN
        have HXX := Lib.hid hX
        clear hx1 hbx hX c0 c1 c2 hqe
        go_wp2_with fail
        refine HEN.out.mono ?_
        rintro e x2 ⟨rfl, hb2⟩
        have Hb2 := Lib.hid (Hbx.out.trans (hb2.mono Hbx.out.size))
        have HRE2 := Lib.hid (HRE.out.below hb2)
        clear hb2
        by_cases hXs : X = s
        · have HE := Lib.hid (show encAB out = s from by rw [← HXX.out, hXs])
          rw [hXs]
          clear hXs
          go_wp2_with fail
          go_ret2
          exact ⟨Hb2.out, .inl ⟨_, out, rfl, HRE2.out, Hd.out, HE.out⟩⟩
        · have hl1 : ¬ X.toList = s.toList := fun h => hXs (by rw [ByteArray.toList_eq, ByteArray.toList_eq] at h; exact bytes_ext h)
          have hl2 : (X.toList == s.toList) = false := beq_eq_false_iff_ne.2 hl1
          have HE := Lib.hid (show ¬ ∃ out, Ed.decE s.data.toList = some (out, s.size) ∧ encAB out = s from fun ⟨o, h1, h2⟩ => by
            rw [Hd.out] at h1
            cases h1
            exact hXs (by rw [HXX.out, h2]))
          go_wp2_with fail
          go_ret2
          exact ⟨Hb2.out, .inr ⟨rfl, HE.out⟩⟩
      · have HV := Lib.hid (show (!b0 && decide (q0 = s.size)) = false from by
          cases b0 with
          | true => rfl
          | false => simp; exact fun h => hw ⟨rfl, h⟩)
        have HE := Lib.hid (show ¬ ∃ out, Ed.decE s.data.toList = some (out, s.size) ∧ encAB out = s from fun ⟨o, h1, h2⟩ => by
          rcases Hrel.out with ⟨g1, g2, g3⟩ | ⟨_, _, g3⟩
          · have hk0 : k = 0 := by
              rcases Nat.eq_zero_or_pos k with h | h
              · exact h
              · exact absurd ⟨h, g1⟩ hgo
            rw [g3, hk0] at h1
            unfold Ed.runE at h1
            injection h1 with h1
            injection h1 with _ h1
            exact hw ⟨g1, h1⟩
          · rw [g3] at h1; cases h1)
        have hcs : k = 0 ∨ (0 < k ∧ b0 = true) := by
          rcases Nat.eq_zero_or_pos k with h | h
          · exact .inl h
          · refine .inr ⟨h, ?_⟩
            cases b0 with
            | true => rfl
            | false => exact absurd ⟨h, rfl⟩ hgo
        clear hw
        rcases hcs with rfl | ⟨hk0, rfl⟩
        · clear hgo
          go_wp2_with fail
          refine (HWH.out wr r q0 b0 Hrr.out).mono ?_
          rintro e x1 ⟨rfl, m, hx1⟩
          rw [HV.out]
          have Hbx := Lib.hid (show Below w.heap.size w x1 from by rw [hx1]; exact below_drewN Hbe.out _)
          clear hx1
          go_wp2_with fail
          go_ret2
          exact ⟨Hbx.out, .inr ⟨rfl, HE.out⟩⟩
        · have hk1 : (0 : Int) < k := by omega
          clear hgo
          go_wp2_with fail
          refine (HWH.out wr r q0 true Hrr.out).mono ?_
          rintro e x1 ⟨rfl, m, hx1⟩
          rw [HV.out]
          have Hbx := Lib.hid (show Below w.heap.size w x1 from by rw [hx1]; exact below_drewN Hbe.out _)
          clear hx1
          go_wp2_with fail
          go_ret2
          exact ⟨Hbx.out, .inr ⟨rfl, HE.out⟩⟩
end Go.Proofs.YtcijhhnbhnaiaaaGreat

/- A state read from bytes, walked. -/
import Derived.Test.YtcijhhnbhnaiaaaGreatEdOwnTb
import Derived.Test.YtcijhhnbhnaiaaaGreatEdEnc3
import Derived.Test.YtcijhhnbhnaiaaaGreatEdSame
import Derived.Test.YtcijhhnbhnaiaaaGreatSink2
namespace Go.Proofs.YtcijhhnbhnaiaaaGreat
set_option linter.unusedSimpArgs false
set_option linter.unusedVariables false
set_option maxRecDepth 100000
open Go.RowKit
attribute [local go_sem ↓] Go.wp_at_zero Go.wp_at_succ

theorem dec_start {s : List UInt8} {na q1 nb q2 nk q3 : Nat} {b1 b2 b3 : Bool} (h1 : NumR s 0 false na q1 b1) (h2 : NumR s q1 b1 nb q2 b2) (h3 : NumR s q2 b2 nk q3 b3) :
    b3 = false ∧ 1 ≤ q3 ∧ Ed.decS s = (Ed.runT s nk q3 []).map (fun x => (⟨x.1, na, nb⟩, x.2)) ∨ b3 = true ∧ Ed.decS s = none := by
  unfold Ed.decS
  rcases h1 with ⟨e1, f1, g1⟩ | ⟨e1, _, _, f1⟩
  case inr => right; rw [e1]; exact ⟨h3.le.2 (h2.le.2 f1), rfl⟩
  rw [e1]
  simp only
  rcases h2 with ⟨e2, f2, g2⟩ | ⟨e2, _, _, f2⟩
  case inr => right; rw [e2]; exact ⟨h3.le.2 f2, rfl⟩
  rw [e2]
  simp only
  rcases h3 with ⟨e3, f3, g3⟩ | ⟨e3, _, _, f3⟩
  case inr => right; rw [e3]; exact ⟨f3, rfl⟩
  rw [e3]
  simp only
  left
  refine ⟨by rw [f3, f2, f1], by omega, ?_⟩
  cases Ed.runT s nk q3 [] <;> rfl
/-- What a decoder of states answers. -/
def DecSPost (s : ByteArray) (w : World) (e : Ending) (w' : World) : Prop :=
  Below w.heap.size w w' ∧ ((∃ tv t, e = .returned (.tuple #[stV tv t.log t.next, .int .i64 0]) ∧ RdT w' tv t.l ∧ Fits t.l ∧ Ed.decS s.data.toList = some (t, s.size) ∧ Ed.Valid t ∧ encSB t = s) ∨
    (e = .returned (.tuple #[stV (.slice none 0 0) 0 0, .int .i64 30]) ∧ ¬ ∃ t, Ed.decS s.data.toList = some (t, s.size) ∧ Ed.Valid t ∧ encSB t = s))
set_option maxHeartbeats 8000000 in
theorem decodeState_any (s : ByteArray) (w : World) (hs : s.size ≤ 1000000) :
    Calls Tryz.prog 52 #[.string s] w (DecSPost s w) := by
  have HN := Lib.hid (fun (W : World) (r q : Nat) (b : Bool) (hW : Rdr W r s q b) (hq : q ≤ s.size) => number_any r s q b W hW (by unfold maxLen; omega) hq)
  have HL := Lib.hid (fun (W : World) (r q : Nat) (b : Bool) (hW : Rdr W r s q b) (hq : q ≤ s.size) => rlist_any r s q b W hW hs hq)
  have HT := Lib.hid (fun (W : World) (r q : Nat) (b : Bool) (hW : Rdr W r s q b) (hq : q ≤ s.size) => text_any r s q b W hW (by unfold maxLen; omega) hq)
  have HWH := Lib.hid (fun (W : World) (r q : Nat) (b : Bool) (hW : Rdr W r s q b) => whole_any r s q b W hW (by unfold maxLen; omega))
  have HS := Lib.hid hs
  go_enter Tryz.func52, Tryz.ntmps52
  go_wp2_with fail
  obtain ⟨w1, hw1⟩ : ∃ w1, w1 = (w.alloc (.cells #[.slice none 0 0, .int .i64 0, .int .i64 0] 28 (0, 0))).alloc (.cells #[.string s, .int .i64 0, .bool false] 105 (0, 0)) := ⟨_, rfl⟩
  obtain ⟨kz, kr, kbe⟩ := two_allocs w _ _ _ _ w1 hw1
  obtain ⟨r, hr⟩ : ∃ r, r = w.heap.size + 1 := ⟨_, rfl⟩
  rw [← hr] at kr
  have HR1 := Lib.hid (show Rdr w1 r s 0 false from kr)
  have HZ1 := Lib.hid kz
  have HB1 := Lib.hid kbe
  have HRW := Lib.hid hr
  have HW1 := Lib.hid hw1
  clear hw1 kz kr kbe hr
  rw [← HW1.out, ← HRW.out]
  refine (HN.out w1 r 0 false HR1.out (Nat.zero_le _)).mono ?_
  rintro e w2 ⟨na, q1, b1, rfl, hr2, hc2, hna, hq1, hcase⟩
  have HR2 := Lib.hid hr2
  have HC2 := Lib.hid hc2
  have HCa := Lib.hid hcase
  clear hr2 hc2 hcase
  go_wp2_with fail
  refine (HN.out w2 r q1 b1 HR2.out hq1).mono ?_
  rintro e w3 ⟨nb, q2, b2, rfl, hr3, hc3, hnb, hq2, hcase⟩
  have HR3 := Lib.hid hr3
  have HC3 := Lib.hid (HC2.out.trans hc3)
  have HCb := Lib.hid hcase
  clear hr3 hc3 hcase
  go_wp2_with fail
  obtain ⟨w4, hw4⟩ : ∃ w4, w4 = w3.alloc (.cells #[.slice none 0 0, .int .i64 na, .int .i64 nb] 28 (0, 0)) := ⟨_, rfl⟩
  rw [← hw4]
  obtain ⟨q, hq⟩ : ∃ q, q = w3.heap.size := ⟨_, rfl⟩
  rw [← hq]
  obtain ⟨kb, kbe⟩ := three_cells w4 hw4
  rw [← hq] at kb
  have hrq : r < q := by rw [hq]; exact Blk.lt HR3.out
  have HQ4 := Lib.hid kb
  have HR4 := Lib.hid (Blk.below HR3.out kbe)
  have hrw : w.heap.size < r := by have := HRW.out; omega
  have HB3 := Lib.hid (HB1.out.trans (HC3.out.below HB1.out.size fun g hg e => by omega))
  have HB4 := Lib.hid (HB3.out.trans (kbe.mono HB3.out.size))
  have HZ4 := Lib.hid ((HZ1.out.chg HC3.out (by omega)).below kbe)
  have hqs4 := Nat.le_of_eq hq.symm
  have hq4l : q < w4.heap.size := kb.lt
  clear hw4 hq kb kbe
  refine (HN.out w4 r q2 b2 HR4.out hq2).mono ?_
  rintro e w5 ⟨nk, q3, b3, rfl, hr5, hc5, hnk, hq3, hcase⟩
  have HR5 := Lib.hid hr5
  have HQ5 := Lib.hid (HQ4.out.chg hc5 (by omega))
  have HZ5 := Lib.hid (HZ4.out.chg hc5 (by omega))
  have HB5 := Lib.hid (HB4.out.trans (hc5.below HB4.out.size fun g hg e => by omega))
  have HCc := Lib.hid hcase
  clear hr5 hc5 hcase
  have HST := Lib.hid (dec_start HCa.out HCb.out HCc.out)
  go_wp2_with fail
  go_loopw [6] (fun v6 wr => ∃ (out : List Ed.Tab) (tx : Option Addr) (tn tc k q0 : Nat) (b : Bool), v6 = .int .i64 k ∧ k < 9223372036854775808 ∧ OwnTb wr (q + 1) (.slice tx tn tc) out ∧ Blk wr q 28 #[.slice tx tn tc, .int .i64 na, .int .i64 nb] ∧ Rdr wr r s q0 b ∧ Blk wr w.heap.size 28 #[.slice none 0 0, .int .i64 0, .int .i64 0] ∧
    Below w.heap.size w wr ∧ q0 ≤ s.size ∧ (∀ t ∈ out, t.frm.size ≤ 1000000 ∧ t.tabs.length ≤ 1000000) ∧
    (b = false ∧ out.length + 1 ≤ q0 ∧ Ed.decS s.data.toList = (Ed.runT s.data.toList k q0 out).map (fun x => (⟨x.1, na, nb⟩, x.2)) ∨ b = true ∧ out.length ≤ q0 ∧ Ed.decS s.data.toList = none)) (fun v6 _ => (intOf v6).toNat)
  case atStart =>
    refine ⟨[], none, 0, 0, nk, q3, b3, rfl, hnk, OwnTb.nil _ _, HQ5.out, HR5.out, HZ5.out, HB5.out, hq3, fun t ht => (by cases ht), ?_⟩
    rcases HST.out with ⟨h1, h2, h3⟩ | ⟨h1, h2⟩
    · exact .inl ⟨h1, by simp; omega, h3⟩
    · exact .inr ⟨h1, Nat.zero_le _, h2⟩
  case round =>
    obtain ⟨out, tx, tn, tc, k, q0, b0, rfl, hk, hown, hbq, hrr, hbz, hbe, hqs, hfit, hrel⟩ := hrel
    have Hown := Lib.hid hown
    have Hbq := Lib.hid hbq
    have Hrr := Lib.hid hrr
    have Hbz := Lib.hid hbz
    have Hbe := Lib.hid hbe
    have Hfit := Lib.hid hfit
    have Hrel := Lib.hid hrel
    obtain ⟨c0, c1, c2, _⟩ := rdr_cells hrr
    have hql : q < wr.heap.size := hbq.lt
    clear hown hbq hrr hbz hbe hfit hrel
    by_cases hgo : 0 < k ∧ b0 = false
    · obtain ⟨hk0, rfl⟩ := hgo
      have hk1 : (0 : Int) < k := by omega
      go_wp2_with fail
      refine wp_region_two (T := fun _ => True) (S := fun W => W.cell? ⟨q, 0, none⟩ = some (.slice tx tn tc)) (n := 10) (by kernel_rfl) ?_
      obtain ⟨x0, hx0⟩ : ∃ x0, x0 = wr.drew := ⟨_, rfl⟩
      rw [← hx0]
      have hb0 : Below wr.heap.size wr x0 := by rw [hx0]; exact (Below.refl _ _).drew
      have hT : True := trivial
      have hS : x0.cell? ⟨q, 0, none⟩ = some (.slice tx tn tc) := (hb0.cell (p := ⟨q, 0, none⟩) hql).trans (Hbq.out.cell 0)
      clear c0 c1 c2 hx0
      refine two_takeT 0 (some 30) (v := ?_) rfl rfl (by kernel_rfl) (by kernel_rfl) (by kernel_rfl) (by decide) (fun _ _ _ h => h) (Or.inl ⟨by rfl, ?hy0⟩) hT hS ?_
      case hy0 => (intro w' hT'; go_simp; (try with_reducible rfl))
      try simp only [Act.put, List.setIfInBounds_toArray, List.set_cons_zero, List.set_cons_succ]
      refine two_take 1 (some 31) (v := ?_) rfl rfl (by kernel_rfl) (by kernel_rfl) (by kernel_rfl) (by kernel_rfl) (by decide) (by kernel_rfl) (fun _ _ _ h => h) (Or.inl ⟨by rfl, ?hy1⟩) hT hS ?_
      case hy1 => (intro w' hS'; (try unfold S8 at hS'); go_simp; (try with_reducible rfl))
      try simp only [Act.put, List.setIfInBounds_toArray, List.set_cons_zero, List.set_cons_succ]
      refine two_takeT 2 (some 32) (v := ?_) rfl rfl (by kernel_rfl) (by kernel_rfl) (by kernel_rfl) (by decide) (fun _ _ _ h => h) (Or.inl ⟨by rfl, ?hy2⟩) hT hS ?_
      case hy2 => (intro w' hT'; go_simp; (try with_reducible rfl))
      try simp only [Act.put, List.setIfInBounds_toArray, List.set_cons_zero, List.set_cons_succ]
      refine two_takeT 4 (some 34) (v := ?_) rfl rfl (by kernel_rfl) (by kernel_rfl) (by kernel_rfl) (by decide) (fun _ _ _ h => h) (Or.inl ⟨by rfl, ?hy4⟩) hT hS ?_
      case hy4 => (intro w' hT'; go_simp; (try with_reducible rfl))
      try simp only [Act.put, List.setIfInBounds_toArray, List.set_cons_zero, List.set_cons_succ]
      have Hr0 := Lib.hid (Blk.below Hrr.out hb0)
      have Hown0 := Lib.hid (Hown.out.chg (S := fun _ => False) (Chg.of_below hb0) (fun _ h => h.elim))
      have hrw0 : r < x0.heap.size := Blk.lt Hr0.out
      have hqw0 : q < x0.heap.size := by have := hb0.size; omega
      have Hb0 := Lib.hid hb0
      refine two_one 3 rfl (by kernel_rfl) ?_
      intro K hK
      go_simp
      refine (HT.out x0 r q0 false Hr0.out hqs).mono ?_
      rintro e x1 ⟨t1, q1', b1', rfl, hr1, hx1, htl, hq1', hc1⟩
      have hS1 : x1.cell? ⟨q, 0, none⟩ = some (.slice tx tn tc) := (hx1.cell (p := ⟨q, 0, none⟩) hqw0 (by show ¬ q = r; omega)).trans hS
      refine hK.out _ _ trivial (fun _ _ => hS1) ?_
      have Hr1 := Lib.hid hr1
      have Hx1 := Lib.hid hx1
      have Hc1 := Lib.hid hc1
      clear hK K hS hr1 hx1 hc1 hb0
      have hS := hS1
      try simp only [Act.put, List.setIfInBounds_toArray, List.set_cons_zero, List.set_cons_succ]
      refine two_one 5 rfl (by kernel_rfl) ?_
      intro K hK
      go_simp
      refine (HL.out x1 r q1' b1' Hr1.out hq1').mono ?_
      rintro e x2 ⟨lv, fl, q2', b2', rfl, hol, hr2, hx2, hq12, hq2', hll, hfl, hc2⟩
      obtain ⟨lx, lc, hlv, _⟩ := hol.rd.form
      obtain ⟨ln, hln⟩ : ∃ ln, ln = fl.length := ⟨_, rfl⟩
      rw [← hln] at hlv
      subst hlv
      have hz1 := Hx1.out.size
      have hS2 : x2.cell? ⟨q, 0, none⟩ = some (.slice tx tn tc) := (hx2.cell (p := ⟨q, 0, none⟩) (by show q < _; omega) (by show ¬ q = r; omega)).trans hS
      refine hK.out _ _ trivial (fun _ _ => hS2) ?_
      have Hr2 := Lib.hid hr2
      have Hx2 := Lib.hid (Hx1.out.trans hx2)
      have Hc2 := Lib.hid hc2
      have Hone := Lib.hid hol.one
      have Hlv := Lib.hid (show RdIX x2 (q + 1) (Value.slice tx tn tc).ownBlock (.slice lx ln lc) fl from hol.ix (by omega) (fun g hg => by have := (Hown0.out.lt g hg).2; omega))
      clear hK K hS hS1 hr2 hx2 hc2 hol hln
      have hS := hS2
      try simp only [Act.put, List.setIfInBounds_toArray, List.set_cons_zero, List.set_cons_succ]
      refine two_one 6 rfl (by kernel_rfl) ?_
      intro K hK
      go_simp
      refine hK.out _ _ hT (fun _ _ => hS) ?_
      clear hK K
      try simp only [Act.put, List.setIfInBounds_toArray, List.set_cons_zero, List.set_cons_succ]
      have hz2 := Hx2.out.size
      refine two_one 7 rfl (by kernel_rfl) ?_
      intro K hK
      go_simp
      obtain ⟨x3, hx3⟩ : ∃ x3, x3 = x2.alloc (.cells #[.string ⟨t1.toArray⟩, .slice lx ln lc] 65 (0, 0)) := ⟨_, rfl⟩
      obtain ⟨kt, ktb⟩ := two_cells x3 hx3
      rw [← hx3]
      have hS3 : x3.cell? ⟨q, 0, none⟩ = some (.slice tx tn tc) := (ktb.cell (p := ⟨q, 0, none⟩) (by show q < _; omega)).trans hS
      refine hK.out _ _ trivial (fun _ _ => hS3) ?_
      have hx3s : ∃ g, g = x2.heap.size := ⟨_, rfl⟩
      obtain ⟨g, hg⟩ := hx3s
      rw [← hg] at kt ⊢
      have Hkt := Lib.hid kt
      have HG := Lib.hid hg
      have Hktb := Lib.hid ktb
      have Hlv3 := Lib.hid (Hlv.out.chg (S := fun _ => False) (Chg.of_below ktb) (fun _ h => h.elim))
      have Hown3 := Lib.hid ((Hown0.out.chg Hx2.out (fun g e => by omega)).chg (S := fun _ => False) (Chg.of_below ktb) (fun _ h => h.elim))
      have hz3 := ktb.size
      have hol : out.length + 1 ≤ 1000000 := by
        have := HS.out
        rcases Hrel.out with ⟨_, h, _⟩ | ⟨h, _⟩
        · omega
        · cases h
      clear hK K hS hS2 kt ktb hx3 hg
      have hS := hS3
      try simp only [Act.put, List.setIfInBounds_toArray, List.set_cons_zero, List.set_cons_succ]
      refine two_one 8 rfl (by kernel_rfl) ?_
      intro K hK
      refine step_append_tb rfl (.tmp 31) (.tmp 37) (by rfl) (q + 1) (.slice tx tn tc) out (by rfl) Hown3.out g (by rfl) ⟨⟨t1.toArray⟩, fl⟩ (.slice lx ln lc) (blk_row Hkt.out rfl) Hlv3.out Hone.out hol (by omega) ?_
      intro v' x4 hown4 hbel4
      obtain ⟨vx, vc, hv', _⟩ := hown4.rd
      obtain ⟨vn, hvn⟩ : ∃ vn, vn = (out ++ [(⟨⟨t1.toArray⟩, fl⟩ : Ed.Tab)]).length := ⟨_, rfl⟩
      rw [← hvn] at hv'
      subst hv'
      have hS4 : x4.cell? ⟨q, 0, none⟩ = some (.slice tx tn tc) := (hbel4.cell (p := ⟨q, 0, none⟩) (Nat.lt_succ_self q)).trans hS3
      refine hK.out _ _ trivial (fun _ _ => hS4) ?_
      have Hbel4 := Lib.hid (show Below (q + 1) x2 x4 from (Hktb.out.mono (by omega)).trans hbel4)
      have Hown4 := Lib.hid hown4
      have hbq4 : Blk x4 q 28 #[.slice tx tn tc, .int .i64 na, .int .i64 nb] := by
        have h1 := (Hbq.out.below Hb0.out).chg Hx2.out (by omega)
        unfold Blk at h1 ⊢
        rw [Hbel4.out.block q (Nat.lt_succ_self q)]; exact h1
      have Hbq4 := Lib.hid hbq4
      clear hK K hS hS3 hown4 hbel4 hbq4 hvn
      have hS := hS4
      try simp only [Act.put, List.setIfInBounds_toArray, List.set_cons_zero, List.set_cons_succ]
      refine two_one 9 rfl (by kernel_rfl) ?_
      intro K hK
      go_simp
      refine hK.out _ _ hT (fun _ _ => hS) ?_
      clear hK K
      try simp only [Act.put, List.setIfInBounds_toArray, List.set_cons_zero, List.set_cons_succ]
      obtain ⟨_, _, _, g0, g1, g2⟩ := blk3 Hbq4.out
      refine two_one 10 rfl (by kernel_rfl) ?_
      intro K hK
      go_simp
      obtain ⟨x5, hx5⟩ : ∃ x5, x5 = x4.setCell ⟨q, 0, none⟩ (.slice vx vn vc) := ⟨_, rfl⟩
      rw [← hx5]
      have z1 : Blk x5 q 28 #[.slice vx vn vc, .int .i64 na, .int .i64 nb] := by rw [hx5]; exact Hbq4.out.set 0 _
      have z2 : Chg (fun g => g = q) x4 x5 := by rw [hx5]; exact (Chg.refl _ _).setCell (S := fun g => g = q) (fun _ => rfl) _
      have HQ5' := Lib.hid z1
      have HC5' := Lib.hid z2
      refine hK.out _ _ trivial (fun _ e => absurd rfl e) ?_
      clear hK K hS hS4 g0 g1 g2 hx5 z1 z2
      try simp only [Act.put, List.setIfInBounds_toArray, List.set_cons_zero, List.set_cons_succ]
      refine two_done (by kernel_rfl) ?_ _
      go_wp2_with fail
      have HZ := Lib.hid (show Blk x5 w.heap.size 28 #[.slice none 0 0, .int .i64 0, .int .i64 0] from by
        have h1 := (Hbz.out.below Hb0.out).chg Hx2.out (by omega)
        have h2 : Blk x4 w.heap.size 28 #[.slice none 0 0, .int .i64 0, .int .i64 0] := by
          unfold Blk at h1 ⊢
          rw [Hbel4.out.block w.heap.size (by omega)]; exact h1
        exact h2.chg HC5'.out (by omega))
      have HRR := Lib.hid (show Rdr x5 r s q2' b2' from Blk.chg (Hr2.out.belowB Hbel4.out (by omega)) HC5'.out (by omega))
      have HBE := Lib.hid (show Below w.heap.size w x5 from by
        have hsz := Hbe.out.size
        have h0 := Hb0.out.size
        have h1 : Below w.heap.size w x0 := Hbe.out.trans (Hb0.out.mono hsz)
        have h2 : Below w.heap.size w x2 := h1.trans (Hx2.out.below h1.size fun g hg e => by omega)
        have h3 : Below w.heap.size w x4 := h2.trans (Hbel4.out.mono (by omega))
        exact h3.trans (HC5'.out.below h3.size fun g hg e => by omega))
      have HJ := Lib.hid (tab_join Hc1.out Hc2.out)
      go_roundw
      case rel =>
        refine ⟨_, vx, vn, vc, k - 1, q2', b2', by go_num, by omega, Hown4.out.chg HC5'.out (fun g e => by omega), HQ5'.out, HRR.out, HZ.out, HBE.out, hq2', ?_, ?_⟩
        · intro t ht
          rcases List.mem_append.1 ht with h | h
          · exact Hfit.out t h
          · obtain rfl : t = ⟨⟨t1.toArray⟩, fl⟩ := by simpa using h
            have := HS.out
            exact ⟨by show (⟨t1.toArray⟩ : ByteArray).size ≤ _; rw [size_l]; omega, by show fl.length ≤ _; omega⟩
        · obtain ⟨j, rfl⟩ : ∃ j, k = j + 1 := ⟨k - 1, by omega⟩
          rcases Hrel.out with ⟨_, h2, h3⟩ | ⟨h1, _⟩
          · unfold Ed.runT at h3
            have hle1 := (TxtR.le Hc1.out).1
            rcases HJ.out with ⟨g1, g2⟩ | ⟨g1, g2⟩
            · rw [g2] at h3
              refine .inl ⟨g1, ?_, h3⟩
              rw [List.length_append]
              rcases Hc1.out with ⟨_, _, h⟩ | ⟨_, _, _, h⟩
              · simp; omega
              · have := LstR.up Hc2.out h; rw [g1] at this; cases this
            · rw [g2] at h3
              exact .inr ⟨g1, by rw [List.length_append]; simp; omega, h3⟩
          · cases h1
      case measure => simp [intOf]; omega
    · have hfits : Fits out := ⟨by
        have := HS.out
        unfold maxLen
        rcases Hrel.out with ⟨_, h, _⟩ | ⟨_, h, _⟩ <;> omega, fun j hj => by
        have := Hfit.out out[j] (List.getElem_mem hj)
        unfold maxLen
        omega⟩
      have HFITS := Lib.hid hfits
      have HES := Lib.hid (fun (W : World) (hW : Below wr.heap.size wr W) => encodeState_any (.slice tx tn tc) ⟨out, na, nb⟩ W (Hown.out.rd.below hW) hfits)
      unfold stV at HES
      try simp only at HES
      obtain ⟨a0, a1, a2, _⟩ := blk3 Hbq.out
      obtain ⟨X, hX⟩ : ∃ X, X = (encRes ⟨out, na, nb⟩).1 := ⟨_, rfl⟩
      obtain ⟨c, hc⟩ : ∃ c, c = (encRes ⟨out, na, nb⟩).2 := ⟨_, rfl⟩
      rw [← hX, ← hc] at HES
      have HXX := Lib.hid hX
      have HCC := Lib.hid hc
      have hcs : k = 0 ∨ (0 < k ∧ b0 = true) := by
        rcases Nat.eq_zero_or_pos k with h | h
        · exact .inl h
        · refine .inr ⟨h, ?_⟩
          cases b0 with
          | true => rfl
          | false => exact absurd ⟨h, rfl⟩ hgo
      clear hX hc hfits hgo
      have hNo : b0 = true ∨ ¬ q0 = s.size → ¬ ∃ t, Ed.decS s.data.toList = some (t, s.size) ∧ Ed.Valid t ∧ encSB t = s := by
        rintro hw ⟨t, h1, _, _⟩
        rcases Hrel.out with ⟨g1, g2, g3⟩ | ⟨_, _, g3⟩
        · rcases hcs with rfl | ⟨_, hb⟩
          · rw [g3] at h1
            simp only [Ed.runT, Option.map_some] at h1
            injection h1 with h1
            injection h1 with _ h1
            rcases hw with hw | hw
            · rw [g1] at hw; cases hw
            · exact hw h1
          · rw [g1] at hb; cases hb
        · rw [g3] at h1; cases h1
      rcases hcs with rfl | ⟨hk0, rfl⟩
      · by_cases hw : b0 = true ∨ ¬ q0 = s.size
        · have HNOT := Lib.hid (hNo hw)
          have HV := Lib.hid (show (!b0 && decide (q0 = s.size)) = false from by
            rcases hw with rfl | h
            · rfl
            · rw [decide_eq_false h]; simp)
          clear hNo hw
          go_wp2_with fail
          refine (HES.out wr (Below.refl _ _)).mono ?_
          rintro e x1 ⟨rfl, hb1⟩
          have HZ1' := Lib.hid (Hbz.out.below hb1)
          have HQ1' := Lib.hid (Hbq.out.below hb1)
          have HR1' := Lib.hid (Blk.below Hrr.out hb1)
          have HB1' := Lib.hid (Hbe.out.trans (hb1.mono Hbe.out.size))
          have HO1' := Lib.hid (Hown.out.chg (S := fun _ => False) (Chg.of_below hb1) (fun _ h => h.elim))
          clear hb1 a0 a1 a2 c0 c1 c2
          go_wp2_with fail
          refine (HWH.out x1 r q0 b0 HR1'.out).mono ?_
          rintro e x2 ⟨rfl, mm, hx2⟩
          have hb2 : Below x1.heap.size x1 x2 := by rw [hx2]; exact below_drewN (Below.refl _ _) _
          have HZ2 := Lib.hid (HZ1'.out.below hb2)
          have HQ2 := Lib.hid (HQ1'.out.below hb2)
          have HB2 := Lib.hid (HB1'.out.trans (hb2.mono HB1'.out.size))
          have HO2 := Lib.hid (HO1'.out.chg (S := fun _ => False) (Chg.of_below hb2) (fun _ h => h.elim))
          obtain ⟨g0, g1, g2, f0, f1, f2⟩ := blk3 HZ2.out
          obtain ⟨r0, r1, r2, _⟩ := blk3 HQ2.out
          clear hx2 hb2
          rw [HV.out]
          go_wp2_with fail
          obtain ⟨w9, hw9⟩ : ∃ w9, w9 = ((x2.setCell ⟨w.heap.size, 0, none⟩ (.slice none 0 0)).setCell ⟨w.heap.size, 1, none⟩ (.int .i64 0)).setCell ⟨w.heap.size, 2, none⟩ (.int .i64 0) := ⟨_, rfl⟩
          rw [← hw9]
          obtain ⟨z1, z2⟩ := three_set HZ2.out w9 hw9
          obtain ⟨k0, k1, k2, _⟩ := blk3 z1
          have hB9 : Below w.heap.size w w9 := HB2.out.trans (z2.below HB2.out.size fun g hg e => by omega)
          clear hw9 z1 z2 g0 g1 g2 f0 f1 f2
          refine bodyPost_ret (v := .tuple #[.agg #[.slice none 0 0, .int .i64 0, .int .i64 0], .int .i64 30]) (by simp [results, Tryz.results52, go_sem, k0, k1, k2]) rfl ⟨hB9, .inr ⟨rfl, HNOT.out⟩⟩
        · have hb : b0 = false := by cases b0 <;> simp_all
          have hqe : q0 = s.size := Classical.byContradiction fun h => hw (.inr h)
          subst hb
          have HD := Lib.hid (show Ed.decS s.data.toList = some (⟨out, na, nb⟩, s.size) from by
            rcases Hrel.out with ⟨_, _, g3⟩ | ⟨g1, _⟩
            · rw [g3, ← hqe]; rfl
            · cases g1)
          have HV := Lib.hid (show (!false && decide (q0 = s.size)) = true from by rw [hqe]; simp)
          clear hNo hw hqe
          by_cases hval : Ed.Valid ⟨out, na, nb⟩
          · have hc0 : c = 0 := by rw [HCC.out]; unfold encRes; rw [Ed.validB_true hval]; rfl
            have hX0 : X = encSB ⟨out, na, nb⟩ := by rw [HXX.out]; unfold encRes; rw [Ed.validB_true hval]; rfl
            subst hc0
            have HX0 := Lib.hid hX0
            have HVAL := Lib.hid hval
            clear hX0 hval
            go_wp2_with fail
            refine (HES.out wr (Below.refl _ _)).mono ?_
            rintro e x1 ⟨rfl, hb1⟩
            have HZ1' := Lib.hid (Hbz.out.below hb1)
            have HQ1' := Lib.hid (Hbq.out.below hb1)
            have HR1' := Lib.hid (Blk.below Hrr.out hb1)
            have HB1' := Lib.hid (Hbe.out.trans (hb1.mono Hbe.out.size))
            have HO1' := Lib.hid (Hown.out.chg (S := fun _ => False) (Chg.of_below hb1) (fun _ h => h.elim))
            clear hb1 a0 a1 a2 c0 c1 c2
            go_wp2_with fail
            refine (HWH.out x1 r q0 false HR1'.out).mono ?_
            rintro e x2 ⟨rfl, mm, hx2⟩
            have hb2 : Below x1.heap.size x1 x2 := by rw [hx2]; exact below_drewN (Below.refl _ _) _
            have HZ2 := Lib.hid (HZ1'.out.below hb2)
            have HQ2 := Lib.hid (HQ1'.out.below hb2)
            have HB2 := Lib.hid (HB1'.out.trans (hb2.mono HB1'.out.size))
            have HO2 := Lib.hid (HO1'.out.chg (S := fun _ => False) (Chg.of_below hb2) (fun _ h => h.elim))
            obtain ⟨g0, g1, g2, f0, f1, f2⟩ := blk3 HZ2.out
            obtain ⟨r0, r1, r2, _⟩ := blk3 HQ2.out
            clear hx2 hb2
            rw [HV.out]
            by_cases hXs : X = s
            · have HE := Lib.hid (show encSB ⟨out, na, nb⟩ = s from by rw [← HX0.out, hXs])
              rw [hXs]
              clear hXs
              go_wp2_with fail
              obtain ⟨w9, hw9⟩ : ∃ w9, w9 = ((x2.setCell ⟨w.heap.size, 0, none⟩ (.slice tx tn tc)).setCell ⟨w.heap.size, 1, none⟩ (.int .i64 na)).setCell ⟨w.heap.size, 2, none⟩ (.int .i64 nb) := ⟨_, rfl⟩
              rw [← hw9]
              obtain ⟨z1, z2⟩ := three_set HZ2.out w9 hw9
              obtain ⟨k0, k1, k2, _⟩ := blk3 z1
              have hB9 : Below w.heap.size w w9 := HB2.out.trans (z2.below HB2.out.size fun g hg e => by omega)
              have hfin := (HO2.out.chg z2 (fun g e => by omega)).rd
              clear hw9 z1 z2 g0 g1 g2 f0 f1 f2 r0 r1 r2
              refine bodyPost_ret (v := .tuple #[.agg #[.slice tx tn tc, .int .i64 na, .int .i64 nb], .int .i64 0]) (by simp [results, Tryz.results52, go_sem, k0, k1, k2]) rfl ⟨hB9, .inl ⟨_, ⟨out, na, nb⟩, rfl, hfin, HFITS.out, HD.out, HVAL.out, HE.out⟩⟩
            · have hl1 : ¬ X.toList = s.toList := fun h => hXs (by rw [ByteArray.toList_eq, ByteArray.toList_eq] at h; exact bytes_ext h)
              have hl2 : (X.toList == s.toList) = false := beq_eq_false_iff_ne.2 hl1
              have HNOT := Lib.hid (show ¬ ∃ t, Ed.decS s.data.toList = some (t, s.size) ∧ Ed.Valid t ∧ encSB t = s from fun ⟨t, h1, _, h3⟩ => by
                rw [HD.out] at h1
                cases h1
                exact hXs (by rw [HX0.out, h3]))
              go_wp2_with fail
              obtain ⟨w9, hw9⟩ : ∃ w9, w9 = ((x2.setCell ⟨w.heap.size, 0, none⟩ (.slice none 0 0)).setCell ⟨w.heap.size, 1, none⟩ (.int .i64 0)).setCell ⟨w.heap.size, 2, none⟩ (.int .i64 0) := ⟨_, rfl⟩
              rw [← hw9]
              obtain ⟨z1, z2⟩ := three_set HZ2.out w9 hw9
              obtain ⟨k0, k1, k2, _⟩ := blk3 z1
              have hB9 : Below w.heap.size w w9 := HB2.out.trans (z2.below HB2.out.size fun g hg e => by omega)
              clear hw9 z1 z2 g0 g1 g2 f0 f1 f2
              refine bodyPost_ret (v := .tuple #[.agg #[.slice none 0 0, .int .i64 0, .int .i64 0], .int .i64 30]) (by simp [results, Tryz.results52, go_sem, k0, k1, k2]) rfl ⟨hB9, .inr ⟨rfl, HNOT.out⟩⟩
          · have hc0 : c = 2 := by rw [HCC.out]; unfold encRes; rw [Ed.validB_false hval]; rfl
            subst hc0
            have HNOT := Lib.hid (show ¬ ∃ t, Ed.decS s.data.toList = some (t, s.size) ∧ Ed.Valid t ∧ encSB t = s from fun ⟨t, h1, h2, _⟩ => by
              rw [HD.out] at h1
              cases h1
              exact hval h2)
            clear hval
            go_wp2_with fail
            refine (HES.out wr (Below.refl _ _)).mono ?_
            rintro e x1 ⟨rfl, hb1⟩
            have HZ1' := Lib.hid (Hbz.out.below hb1)
            have HQ1' := Lib.hid (Hbq.out.below hb1)
            have HR1' := Lib.hid (Blk.below Hrr.out hb1)
            have HB1' := Lib.hid (Hbe.out.trans (hb1.mono Hbe.out.size))
            have HO1' := Lib.hid (Hown.out.chg (S := fun _ => False) (Chg.of_below hb1) (fun _ h => h.elim))
            clear hb1 a0 a1 a2 c0 c1 c2
            go_wp2_with fail
            refine (HWH.out x1 r q0 false HR1'.out).mono ?_
            rintro e x2 ⟨rfl, mm, hx2⟩
            have hb2 : Below x1.heap.size x1 x2 := by rw [hx2]; exact below_drewN (Below.refl _ _) _
            have HZ2 := Lib.hid (HZ1'.out.below hb2)
            have HQ2 := Lib.hid (HQ1'.out.below hb2)
            have HB2 := Lib.hid (HB1'.out.trans (hb2.mono HB1'.out.size))
            have HO2 := Lib.hid (HO1'.out.chg (S := fun _ => False) (Chg.of_below hb2) (fun _ h => h.elim))
            obtain ⟨g0, g1, g2, f0, f1, f2⟩ := blk3 HZ2.out
            obtain ⟨r0, r1, r2, _⟩ := blk3 HQ2.out
            clear hx2 hb2
            rw [HV.out]
            go_wp2_with fail
            obtain ⟨w9, hw9⟩ : ∃ w9, w9 = ((x2.setCell ⟨w.heap.size, 0, none⟩ (.slice none 0 0)).setCell ⟨w.heap.size, 1, none⟩ (.int .i64 0)).setCell ⟨w.heap.size, 2, none⟩ (.int .i64 0) := ⟨_, rfl⟩
            rw [← hw9]
            obtain ⟨z1, z2⟩ := three_set HZ2.out w9 hw9
            obtain ⟨k0, k1, k2, _⟩ := blk3 z1
            have hB9 : Below w.heap.size w w9 := HB2.out.trans (z2.below HB2.out.size fun g hg e => by omega)
            clear hw9 z1 z2 g0 g1 g2 f0 f1 f2
            refine bodyPost_ret (v := .tuple #[.agg #[.slice none 0 0, .int .i64 0, .int .i64 0], .int .i64 30]) (by simp [results, Tryz.results52, go_sem, k0, k1, k2]) rfl ⟨hB9, .inr ⟨rfl, HNOT.out⟩⟩
      · have hk1 : (0 : Int) < k := by omega
        have HNOT := Lib.hid (hNo (.inl rfl))
        clear hNo
        go_wp2_with fail
        refine (HES.out wr (Below.refl _ _)).mono ?_
        rintro e x1 ⟨rfl, hb1⟩
        have HZ1' := Lib.hid (Hbz.out.below hb1)
        have HQ1' := Lib.hid (Hbq.out.below hb1)
        have HR1' := Lib.hid (Blk.below Hrr.out hb1)
        have HB1' := Lib.hid (Hbe.out.trans (hb1.mono Hbe.out.size))
        have HO1' := Lib.hid (Hown.out.chg (S := fun _ => False) (Chg.of_below hb1) (fun _ h => h.elim))
        clear hb1 a0 a1 a2 c0 c1 c2
        go_wp2_with fail
        refine (HWH.out x1 r q0 true HR1'.out).mono ?_
        rintro e x2 ⟨rfl, mm, hx2⟩
        have hb2 : Below x1.heap.size x1 x2 := by rw [hx2]; exact below_drewN (Below.refl _ _) _
        have HZ2 := Lib.hid (HZ1'.out.below hb2)
        have HQ2 := Lib.hid (HQ1'.out.below hb2)
        have HB2 := Lib.hid (HB1'.out.trans (hb2.mono HB1'.out.size))
        have HO2 := Lib.hid (HO1'.out.chg (S := fun _ => False) (Chg.of_below hb2) (fun _ h => h.elim))
        obtain ⟨g0, g1, g2, f0, f1, f2⟩ := blk3 HZ2.out
        obtain ⟨r0, r1, r2, _⟩ := blk3 HQ2.out
        clear hx2 hb2
        go_wp2_with fail
        obtain ⟨w9, hw9⟩ : ∃ w9, w9 = ((x2.setCell ⟨w.heap.size, 0, none⟩ (.slice none 0 0)).setCell ⟨w.heap.size, 1, none⟩ (.int .i64 0)).setCell ⟨w.heap.size, 2, none⟩ (.int .i64 0) := ⟨_, rfl⟩
        rw [← hw9]
        obtain ⟨z1, z2⟩ := three_set HZ2.out w9 hw9
        obtain ⟨k0, k1, k2, _⟩ := blk3 z1
        have hB9 : Below w.heap.size w w9 := HB2.out.trans (z2.below HB2.out.size fun g hg e => by omega)
        clear hw9 z1 z2 g0 g1 g2 f0 f1 f2
        refine bodyPost_ret (v := .tuple #[.agg #[.slice none 0 0, .int .i64 0, .int .i64 0], .int .i64 30]) (by simp [results, Tryz.results52, go_sem, k0, k1, k2]) rfl ⟨hB9, .inr ⟨rfl, HNOT.out⟩⟩
end Go.Proofs.YtcijhhnbhnaiaaaGreat

/- A state's copy, walked. -/
import Derived.Test.YtcijhhnbhnaiaaaGreatEdOwn
namespace Go.Proofs.YtcijhhnbhnaiaaaGreat
set_option linter.unusedSimpArgs false
set_option linter.unusedVariables false
set_option maxRecDepth 100000
open Go.RowKit
attribute [local go_sem ↓] Go.wp_at_zero Go.wp_at_succ

theorem Blk.grown' {w w' : World} {b : Nat} {t : TypeId} {cs : Array Value} {row : Option Nat} (h : Blk w b t cs) (hb : w.grownBy w' row) (hg : some b ≠ row) : Blk w' b t cs := (hb.block b h.lt hg).trans h
theorem three_allocs (w : World) (t1 t2 t3 : TypeId) (c1 c2 c3 : Array Value) : ∀ w3, w3 = ((w.alloc (.cells c1 t1 (0, 0))).alloc (.cells c2 t2 (0, 0))).alloc (.cells c3 t3 (0, 0)) →
    Blk w3 w.heap.size t1 c1 ∧ Blk w3 (w.heap.size + 1) t2 c2 ∧ Blk w3 (w.heap.size + 1 + 1) t3 c3 ∧ Below w.heap.size w w3 ∧ w3.heap.size = w.heap.size + 1 + 1 + 1 := by
  intro w3 h
  obtain ⟨w1, h1⟩ : ∃ w1, w1 = w.alloc (.cells c1 t1 (0, 0)) := ⟨_, rfl⟩
  have z1 : w1.heap.size = w.heap.size + 1 := by rw [h1]; simp
  have b1 : Blk w1 w.heap.size t1 c1 := by rw [h1]; exact Blk.alloc_new w _ _
  have l1 : Below w.heap.size w w1 := by rw [h1]; exact (Below.refl _ _).alloc (Nat.le_refl _) _
  rw [← h1] at h
  obtain ⟨w2, h2⟩ : ∃ w2, w2 = w1.alloc (.cells c2 t2 (0, 0)) := ⟨_, rfl⟩
  have z2 : w2.heap.size = w.heap.size + 1 + 1 := by rw [h2, ← z1]; simp
  have b2 : Blk w2 (w.heap.size + 1) t2 c2 := by rw [h2, ← z1]; exact Blk.alloc_new w1 _ _
  have l2 : Below w1.heap.size w1 w2 := by rw [h2]; exact (Below.refl _ _).alloc (Nat.le_refl _) _
  rw [← h2] at h
  have l3 : Below w2.heap.size w2 w3 := by rw [h]; exact (Below.refl _ _).alloc (Nat.le_refl _) _
  have b3 : Blk w3 (w.heap.size + 1 + 1) t3 c3 := by rw [h, ← z2]; exact Blk.alloc_new w2 _ _
  exact ⟨(b1.below l2).below l3, b2.below l3, b3, (l1.trans (l2.mono (by omega))).trans (l3.mono (by omega)), by rw [h, ← z2]; simp⟩
theorem chg_setCells {S : Nat → Prop} {w0 : World} {b : Nat} (hb : S b) : ∀ (us : List Value) (o : Nat) (w : World), Chg S w0 w → Chg S w0 (w.setCells b o us)
  | [], _, _, h => h
  | u :: us, o, w, h => by rw [World.setCells]; exact chg_setCells hb us (o + 1) _ (h.setCell (fun _ => hb) u)

set_option maxHeartbeats 4000000 in
theorem edClone_any (tv : Value) (s : Ed.St) (w : World) (h : RdT w tv s.l) (hne : 0 < s.l.length) (hn : s.l.length ≤ 1000) (ht : ∀ (j : Nat) (hj : j < s.l.length), s.l[j].tabs.length ≤ 1000000) :
    Calls Tryz.prog 31 #[stV tv s.log s.next] w fun e w' => ∃ tb raw, e = .returned (stV (.slice (some ⟨tb, 0, none⟩) s.l.length s.l.length) s.log s.next) ∧ OwnT w' w.heap.size tb raw s.l ∧ Below w.heap.size w w' := by
  obtain ⟨l, log, next⟩ := s
  simp only at h hne hn ht ⊢
  obtain ⟨b, off, c, raw, rfl, hb, hrl, hre, hcs⟩ := h.raw hne
  have Hcs := Lib.hid hcs
  have Hre := Lib.hid hre
  have Ht := Lib.hid ht
  obtain ⟨n, hnn⟩ : ∃ n, n = l.length := ⟨_, rfl⟩
  rw [← hnn] at hne hn hrl ⊢
  have Hn := Lib.hid hnn
  obtain ⟨i0, hi, hz0, hz1, hz2⟩ := info_parts Tryz.info_tablet
  have HI := Lib.hid hi
  have HZ0 := Lib.hid hz0
  have HZ1 := Lib.hid hz1
  have HZ2 := Lib.hid hz2
  clear h hcs hre ht hnn hi hz0 hz1 hz2
  unfold stV
  go_enter Tryz.func31, Tryz.ntmps31
  go_wp2_with (refine wpList_make_full _ rfl _ _ _ rfl w.heap.size _ i0 _ 2 under_tablets HI.out HZ0.out HZ1.out .i64 .i64 _ _ n rfl rfl rfl rfl (by rw [HZ2.out]; omega) (by unfold maxLen; omega) (by simp; omega) ?_)
  intro w' h1 h2
  obtain ⟨w3, hw3⟩ : ∃ w3, w3 = ((w.alloc (.cells #[.slice (some ⟨b, off, none⟩) n c, .int .i64 log, .int .i64 next] 28 (0, 0))).alloc (.cells #[.slice none 0 0, .int .i64 0, .int .i64 0] 28 (0, 0))).alloc (.cells #[.slice (some ⟨b, off, none⟩) n c, .int .i64 log, .int .i64 next] 28 (0, 0)) := ⟨_, rfl⟩
  rw [← hw3] at h2
  obtain ⟨k1, k2, k3, kb, kz⟩ := three_allocs w _ _ _ _ _ _ w3 hw3
  have k1' := k1.grown' h2 (by simp)
  have k2' := k2.grown' h2 (by simp)
  have k3' := k3.grown' h2 (by simp)
  have kb' : Below w.heap.size w w' := kb.trans (((Below.refl w3.heap.size w3).grown h2 (Nat.le_refl _) fun k hk => by cases hk).mono (by omega))
  have R0 : RowAt w' (w.heap.size + 1 + 1 + 1) (madeCells #[.string ⟨#[]⟩, .slice none 0 0] (n * 2)).toList := by
    obtain ⟨_, h3 | ⟨g, cap, cur, hv, hg, hh, hn1, hm1, hs1, ht1⟩⟩ := h1
    · exact absurd h3.1 (by simp)
    · simp at hv
      obtain ⟨rfl, rfl⟩ := hv
      have e : cur.toList = (madeCells #[.string ⟨#[]⟩, .slice none 0 0] (n * 2)).toList := by
        rw [← ht1, List.take_of_length_le (by simp; omega)]
      rw [← e]
      exact RowAt.of_blk (t := 65) hh
  have K1 := Lib.hid k1'
  have K3 := Lib.hid k3'
  have KB := Lib.hid kb'
  have K2 := Lib.hid k2'
  have R0' := Lib.hid R0
  have q0 := k3'.cell 0
  have q1 := k3'.free 0
  have p0 := k1'.cell 0
  simp at q0 p0
  have hz' : w.heap.size + 1 + 1 + 1 < w'.heap.size := R0.lt
  have hbl : b < w.heap.size := hb
  clear h1 h2 hw3 k1 k2 k3 kb kz k1' k2' k3' kb' R0
  -- behind the store
  obtain ⟨w4, hw4⟩ : ∃ w4, w4 = w'.setCell ⟨w.heap.size + 1 + 1, 0, none⟩ (.slice (some ⟨w.heap.size + 1 + 1 + 1, 0, none⟩) n n) := ⟨_, rfl⟩
  have b4 : Below w.heap.size w w4 := by rw [hw4]; exact KB.out.setCell (by show w.heap.size ≤ w.heap.size + 1 + 1; omega) _
  have x3 : Blk w4 (w.heap.size + 1 + 1) 28 #[.slice (some ⟨w.heap.size + 1 + 1 + 1, 0, none⟩) n n, .int .i64 log, .int .i64 next] := by rw [hw4]; exact K3.out.set 0 _
  have x1 : Blk w4 w.heap.size 28 #[.slice (some ⟨b, off, none⟩) n c, .int .i64 log, .int .i64 next] := by
    have hne1 : w.heap.size ≠ w.heap.size + 1 + 1 := by omega
    rw [hw4]; exact (Below.heap_setCell _ _ _ _ hne1).trans K1.out
  have x2 : Blk w4 (w.heap.size + 1) 28 #[.slice none 0 0, .int .i64 0, .int .i64 0] := by
    have hne1 : w.heap.size + 1 ≠ w.heap.size + 1 + 1 := by omega
    rw [hw4]; exact (Below.heap_setCell _ _ _ _ hne1).trans K2.out
  have R4 : RowAt w4 (w.heap.size + 1 + 1 + 1) (madeCells #[.string ⟨#[]⟩, .slice none 0 0] (n * 2)).toList := by rw [hw4]; exact R0'.out.set_ne _ (by show w.heap.size + 1 + 1 ≠ w.heap.size + 1 + 1 + 1; omega) _
  have hmc : (cellsT raw).length = (madeCells #[.string ⟨#[]⟩, .slice none 0 0] (n * 2)).toList.length := by rw [cellsT_length, hrl, Array.length_toList, size_madeCells]
  have HC := Lib.hid (show ∀ ty, (Builtin.copy_ #[26, 26] ty #[.slice (some ⟨w.heap.size + 1 + 1 + 1, 0, none⟩) n n, .slice (some ⟨b, off, none⟩) n c]).run Tryz.prog w4 = .ok (goInt n) (w4.setCells (w.heap.size + 1 + 1 + 1) 0 (cellsT raw)) from fun ty => by
    have := run_copy_two (P := Tryz.prog) w4 26 26 ty 65 (w.heap.size + 1 + 1 + 1) 0 n n ⟨b, off, none⟩ n c (cellsT raw) under_tablets (by rw [HI.out]; exact congrArg some HZ1.out) (by rw [cellsT_length, hrl]; simp)
      (fun j v hj => by rw [show (⟨b, off, none⟩ : Addr).add j = ⟨b, off + j, none⟩ by unfold Addr.add; split <;> simp_all]; exact (b4.cell (p := ⟨b, off + j, none⟩) hbl).trans (Hcs.out j v hj))
      (fun j hj => by rw [Nat.zero_add, R4.cell j (by omega)]; rfl) (fun j hj => by rw [Nat.zero_add]; exact R4.free j (by omega))
      (fun v hv => by
        obtain ⟨x, hx, hv⟩ := List.mem_flatMap.1 hv
        simp at hv
        obtain ⟨j, hj, rfl⟩ := List.mem_iff_getElem.1 hx
        rcases hv with rfl | rfl
        · rfl
        · exact (Hre.out j hj (by rw [← Hn.out]; omega)).2.one)
    rw [show Nat.min n n = n from Nat.min_self n] at this
    exact this)
  obtain ⟨w5, hw5⟩ : ∃ w5, w5 = w4.setCells (w.heap.size + 1 + 1 + 1) 0 (cellsT raw) := ⟨_, rfl⟩
  rw [← hw5] at HC
  have b5 : Below w.heap.size w w5 := by rw [hw5]; exact below_setCells (by omega) _ _ _ b4
  have g5 : Chg (fun k => k = w.heap.size + 1 + 1 + 1) w4 w5 := by rw [hw5]; exact chg_setCells (S := fun k => k = w.heap.size + 1 + 1 + 1) rfl _ _ _ (Chg.refl _ _)
  have y1 := Lib.hid (x1.chg g5 (by omega))
  have y2 := Lib.hid (x2.chg g5 (by omega))
  have y3 := Lib.hid (x3.chg g5 (by omega))
  have R5 := Lib.hid (show RowAt w5 (w.heap.size + 1 + 1 + 1) (cellsT raw) by rw [hw5]; exact R4.cells _ hmc)
  have B5 := Lib.hid b5
  have u0 := x3.cell 0
  have u1 := x1.cell 0
  simp at u0 u1
  have HC2 := HC
  rw [hw4] at HC2
  have hb3ne : w.heap.size + 1 + 1 ≠ w.heap.size + 1 + 1 + 1 := by omega
  clear hw5 b5 g5 x1 x2 x3 R4 b4 hmc hw4 HC u0 u1
  have u1 := y1.out.cell 0
  simp at u1
  go_wp2_with (refine wpList_copy_two _ rfl _ _ 26 26 rfl _ _ rfl rfl (HC2.out _) ?_)
  obtain ⟨tb, htb⟩ : ∃ tb, tb = w.heap.size + 1 + 1 + 1 := ⟨_, rfl⟩
  obtain ⟨b3, hb3⟩ : ∃ b3, b3 = w.heap.size + 1 + 1 := ⟨_, rfl⟩
  have n1 : w.heap.size ≠ tb := by omega
  have n2 : b3 ≠ tb := by omega
  have n3 : b3 ≠ w.heap.size := by omega
  have n4 : w.heap.size ≤ tb := by omega
  have n5 : w.heap.size + 1 ≠ tb := by omega
  rw [← htb, ← hb3]
  rw [← htb] at R5 R0'
  rw [← htb, ← hb3] at y3
  clear p0 q0 q1 u1 hz' hb3ne K1 K2 K3 KB R0' HC2 htb hb3
  go_loopw [4, 5, 20] (fun _ _ v20 wr => ∃ (k : Nat) (raws : List (ByteArray × Value)), v20 = .int .i64 k ∧ k ≤ n ∧ raws.length = n ∧ RowAt wr tb (cellsT raws) ∧ (∀ (j : Nat) (hj : j < raws.length) (hj' : j < l.length), raws[j].1 = l[j].frm ∧ (j < k → OwnI wr w.heap.size raws[j].2 l[j].tabs ∧ raws[j].2.ownBlock ≠ some tb)) ∧
      (∀ (i j : Nat) (hi : i < raws.length) (hj : j < raws.length) (g : Nat), i ≠ j → i < k → j < k → raws[i].2.ownBlock = some g → raws[j].2.ownBlock ≠ some g) ∧
      Blk wr w.heap.size 28 #[.slice (some ⟨b, off, none⟩) n c, .int .i64 log, .int .i64 next] ∧ Blk wr (w.heap.size + 1) 28 #[.slice none 0 0, .int .i64 0, .int .i64 0] ∧ Blk wr b3 28 #[.slice (some ⟨tb, 0, none⟩) n n, .int .i64 log, .int .i64 next] ∧ Below w.heap.size w wr) (fun _ _ v20 _ => n - (intOf v20).toNat)
  case atStart => exact ⟨0, raw, rfl, Nat.zero_le _, hrl, R5.out, fun j hj hj' => ⟨(Hre.out j hj hj').1, fun h => absurd h (by omega)⟩, fun _ _ _ _ _ _ h => absurd h (by omega), y1.out, y2.out, y3.out, B5.out⟩
  case round =>
    obtain ⟨k, raws, rfl, hk, hrs, hrow, heach, hap, z1, z2, z3, hbe⟩ := hrel
    have Hrow := Lib.hid hrow
    have Heach := Lib.hid heach
    have Hap := Lib.hid hap
    have Hbe := Lib.hid hbe
    have Z1 := Lib.hid z1
    have Z2 := Lib.hid z2
    have Z3 := Lib.hid z3
    have Hrs := Lib.hid hrs
    clear hrow heach hap hbe z2 hrs
    by_cases hlt : k < n
    · have hkr : k < raw.length := by omega
      have hkl : k < l.length := by rw [← Hn.out]; exact hlt
      have hlen := cellsT_length raw
      have d0 := (Hbe.out.cell (p := ⟨b, off + k * 2, none⟩) hbl).trans (Hcs.out (k * 2) _ (cellsT_get0 raw k hkr))
      have d1 := (Hbe.out.cell (p := ⟨b, off + (k * 2 + 1), none⟩) hbl).trans (Hcs.out (k * 2 + 1) _ (cellsT_get1 raw k hkr))
      rw [← Nat.add_assoc] at d1
      have hre := Hre.out k hkr hkl
      have htk := Ht.out k hkl
      obtain ⟨fr, hfr⟩ : ∃ fr, fr = raw[k].1 := ⟨_, rfl⟩
      obtain ⟨tv, htv⟩ : ∃ tv, tv = raw[k].2 := ⟨_, rfl⟩
      rw [← hfr] at d0 hre
      rw [← htv] at d1 hre
      have HRD := Lib.hid (fun (W : World) (hW : Below w.heap.size w W) => hre.2.below hW)
      have HFR := Lib.hid hre.1
      obtain ⟨y, yc, rfl, _⟩ := hre.2.form
      clear hre hlen hfr htv
      go_wp2_with fail
      obtain ⟨W2, hW2⟩ : ∃ W2, W2 = wr.alloc (.cells #[.string fr, .slice y (l[k].tabs.length) yc] 65 (0, 0)) := ⟨_, rfl⟩
      rw [← hW2]
      have hb2 : Below wr.heap.size wr W2 := by rw [hW2]; exact (Below.refl _ _).alloc (Nat.le_refl _) _
      have B2 : Blk W2 wr.heap.size 65 #[.string fr, .slice y (l[k].tabs.length) yc] := by rw [hW2]; exact Blk.alloc_new _ _ _
      have hkW : w.heap.size ≤ wr.heap.size := Hbe.out.size
      have hb3w : b3 < wr.heap.size := Z3.out.lt
      have htw : tb < wr.heap.size := Hrow.out.lt
      have s0 : W2.cell? ⟨b3, 0, none⟩ = some (.slice (some ⟨tb, 0, none⟩) n n) := (hb2.cell (p := ⟨b3, 0, none⟩) hb3w).trans (by have := Z3.out.cell 0; simpa using this)
      have s1 : W2.cell? ⟨wr.heap.size, 1, none⟩ = some (.slice y (l[k].tabs.length) yc) := by have := B2.cell 1; simpa using this
      have hlw : wr.heap.size < W2.heap.size := B2.lt
      have hlb3 : b3 < W2.heap.size := Nat.lt_of_lt_of_le hb3w hb2.size
      have Hrw := Lib.hid (Hrow.out.below hb2)
      have hnt1 : wr.heap.size ≠ tb := by omega
      have hb2' : Below w.heap.size w W2 := Hbe.out.trans (hb2.mono hkW)
      have HRD2 := Lib.hid (fun (W : World) (hW : Below W2.heap.size W2 W) => HRD.out W (hb2'.trans (hW.mono (Nat.le_trans hkW (Nat.le_of_lt hlw)))))
      have hkn : (0 : Int) ≤ k := by omega
      have hkn2 : (k : Int) < n := by omega
      have hnt2 : tb ≠ b3 := by omega
      have hnt3 : tb ≠ wr.heap.size := by omega
      have cur : Below W2.heap.size W2 W2.drew := (Below.refl _ _).drew
      have Hb2 := Lib.hid hb2
      clear hW2 B2 hb2 d0 d1 z1 z3
      go_region_held3 (fun W => W.cell? ⟨b3, 0, none⟩ = some (.slice (some ⟨tb, 0, none⟩) n n) ∧ W.cell? ⟨wr.heap.size, 1, none⟩ = some (.slice y (l[k].tabs.length) yc))
        (first | go_keep | exact hq | exact ⟨(World.cell?_setCell_far _ _ _ _ hnt2).trans hq.1, (World.cell?_setCell_far _ _ _ _ hnt3).trans hq.2⟩)
        ((go_at_call 58; refine (cloneI_any _ _ _ (HRD2.out _ cur) (by omega)).mono ?_; rintro e w3 ⟨v', rfl, ho, hb⟩; obtain ⟨x', c', rfl, _⟩ := ho.rd.form; have hq : w3.cell? ⟨b3, 0, none⟩ = some (.slice (some ⟨tb, 0, none⟩) n n) ∧ w3.cell? ⟨wr.heap.size, 1, none⟩ = some (.slice y (l[k].tabs.length) yc) := ⟨((cur.trans (hb.mono cur.size)).cell (p := ⟨b3, 0, none⟩) hlb3).trans s0, ((cur.trans (hb.mono cur.size)).cell (p := ⟨wr.heap.size, 1, none⟩) hlw).trans s1⟩; have Hrw3 := Lib.hid ((Hrw.out.below cur).below hb); have c3 := Hrw3.out.cell (k * 2 + 1) (by have := Hrs.out; rw [cellsT_length]; omega); have f3 := Hrw3.out.free (k * 2 + 1) (by have := Hrs.out; rw [cellsT_length]; omega); generalize (cellsT raws)[k * 2 + 1]'(by have := Hrs.out; rw [cellsT_length]; omega) = old at c3; have HO := Lib.hid ho; have HB := Lib.hid hb; clear ho hb))
      go_wp2_with fail
      obtain ⟨W4, hW4⟩ : ∃ W4, W4 = w3.setCell ⟨tb, k * 2 + 1, none⟩ (.slice x' l[k].tabs.length c') := ⟨_, rfl⟩
      rw [← hW4]
      have hkr2 : k < raws.length := by have := Hrs.out; omega
      have hch : Chg (fun g => g = tb) wr W4 := by
        rw [hW4]
        exact (((Chg.of_below Hb2.out).trans (Chg.of_below cur)).trans (Chg.of_below HB.out)).setCell (S := fun g => g = tb) (fun _ => rfl) _
      have hbe4 : Below w.heap.size w W4 := Hbe.out.trans (hch.below hkW fun g hg e => by omega)
      have hR4 : RowAt W4 tb (cellsT (raws.set k (raws[k].1, .slice x' l[k].tabs.length c'))) := by
        have h1 := Hrw3.out.set (k * 2 + 1) (by have := Hrs.out; rw [cellsT_length]; omega) (.slice x' l[k].tabs.length c')
        rw [cellsT_set1 raws k (by have := Hrs.out; omega)] at h1
        rw [hW4]; exact h1
      have hlt3 := World.ownsRow.lt HO.out
      have hgw : ∀ g, (Value.slice x' l[k].tabs.length c').ownBlock = some g → wr.heap.size < g := fun g hg => Nat.lt_of_lt_of_le hlw (hlt3 g hg).1
      have hO4 : OwnI W4 w.heap.size (.slice x' l[k].tabs.length c') l[k].tabs := by
        have h1 : Chg (fun g => g = tb) w3 W4 := by rw [hW4]; exact Chg.setCell (S := fun g => g = tb) (Chg.refl _ _) (fun _ => rfl) _
        exact (HO.out.chg h1 fun g hg e => by have := hgw g hg; omega).base (Nat.le_trans hkW (Nat.le_of_lt hlw))
      have Hfin := Lib.hid (show (∀ (j : Nat) (hj : j < (raws.set k (raws[k].1, .slice x' l[k].tabs.length c')).length) (hj' : j < l.length), (raws.set k (raws[k].1, .slice x' l[k].tabs.length c'))[j].1 = l[j].frm ∧ (j < k + 1 → OwnI W4 w.heap.size (raws.set k (raws[k].1, .slice x' l[k].tabs.length c'))[j].2 l[j].tabs ∧ (raws.set k (raws[k].1, .slice x' l[k].tabs.length c'))[j].2.ownBlock ≠ some tb)) from fun j hj hj' => by
        rw [List.length_set] at hj
        by_cases e : k = j
        · subst e
          rw [List.getElem_set_self]
          exact ⟨(Heach.out k hj hj').1, fun _ => ⟨hO4, fun e => by have := hgw tb e; omega⟩⟩
        · rw [List.getElem_set_ne e]
          refine ⟨(Heach.out j hj hj').1, fun hjk => ?_⟩
          obtain ⟨h1, h2⟩ := (Heach.out j hj hj').2 (by omega)
          exact ⟨h1.chg hch fun g hg e => h2 (by rw [hg, e]), h2⟩)
      have Hap2 := Lib.hid (show ∀ (i j : Nat) (hi : i < (raws.set k (raws[k].1, .slice x' l[k].tabs.length c')).length) (hj : j < (raws.set k (raws[k].1, .slice x' l[k].tabs.length c')).length) (g : Nat), i ≠ j → i < k + 1 → j < k + 1 → (raws.set k (raws[k].1, .slice x' l[k].tabs.length c'))[i].2.ownBlock = some g → (raws.set k (raws[k].1, .slice x' l[k].tabs.length c'))[j].2.ownBlock ≠ some g from fun i j hi hj g hij hik hjk => by
        rw [List.length_set] at hi hj
        have old : ∀ (i : Nat) (hi : i < raws.length) (g : Nat), i < k → raws[i].2.ownBlock = some g → g < wr.heap.size := fun i hi g hik hg =>
          ((World.ownsRow.lt ((Heach.out i hi (by rw [← Hn.out]; omega)).2 hik).1) g hg).2
        by_cases e : k = i
        · subst e
          rw [List.getElem_set_self, List.getElem_set_ne (by omega)]
          intro h1 h2
          have := hgw g h1
          have := old j hj g (by omega) h2
          omega
        · rw [List.getElem_set_ne e]
          by_cases e2 : k = j
          · subst e2
            rw [List.getElem_set_self]
            intro h1 h2
            have := hgw g h2
            have := old i hi g (by omega) h1
            omega
          · rw [List.getElem_set_ne e2]
            exact Hap.out i j hi hj g hij (by omega) (by omega))
      have HR4 := Lib.hid hR4
      have Hch := Lib.hid hch
      have Hbe4 := Lib.hid hbe4
      clear hW4 hch hbe4 hR4 hlt3 hgw hO4 hq
      go_roundw
      case rel => exact ⟨k + 1, _, by go_num, by omega, by rw [List.length_set]; exact Hrs.out, HR4.out, Hfin.out, Hap2.out, Z1.out.chg Hch.out (by omega), Z2.out.chg Hch.out (by omega), Z3.out.chg Hch.out (by omega), Hbe4.out⟩
      case measure => simp [intOf]; omega
    · obtain rfl : k = n := by omega
      have e0 := Z3.out.cell 0
      have e1 := Z3.out.cell 1
      have e2 := Z3.out.cell 2
      have e3 := Z2.out.cell 0
      have e4 := Z2.out.cell 1
      have e5 := Z2.out.cell 2
      have f0 := Z2.out.free 0
      have f1 := Z2.out.free 1
      have f2 := Z2.out.free 2
      simp at e0 e1 e2 e3 e4 e5
      clear z1 z3
      go_wp2_with fail
      obtain ⟨W5, hW5⟩ : ∃ W5, W5 = ((wr.setCell ⟨w.heap.size + 1, 0, none⟩ (.slice (some ⟨tb, 0, none⟩) k k)).setCell ⟨w.heap.size + 1, 1, none⟩ (.int .i64 log)).setCell ⟨w.heap.size + 1, 2, none⟩ (.int .i64 next) := ⟨_, rfl⟩
      rw [← hW5]
      have hbk : Blk W5 (w.heap.size + 1) 28 #[.slice (some ⟨tb, 0, none⟩) k k, .int .i64 log, .int .i64 next] := by
        rw [hW5]; exact ((Z2.out.set 0 _).set 1 _).set 2 _
      have hch : Chg (fun g => g = w.heap.size + 1) wr W5 := by
        rw [hW5]
        exact (((Chg.refl _ _).setCell (S := fun g => g = w.heap.size + 1) (fun _ => rfl) _).setCell (S := fun g => g = w.heap.size + 1) (fun _ => rfl) _).setCell (S := fun g => g = w.heap.size + 1) (fun _ => rfl) _
      have Hfin := Lib.hid (show OwnT W5 w.heap.size tb raws l from ⟨n4, Hrow.out.chg hch (by omega), by rw [Hrs.out, Hn.out], fun j hj hj' => ⟨(Heach.out j hj hj').1, by
        obtain ⟨h1, h2⟩ := (Heach.out j hj hj').2 (by rw [Hn.out]; exact hj')
        refine ⟨h1.chg hch fun g hg e => ?_, h2⟩
        subst e
        have h3 := h1.2
        rcases h3 with h3 | ⟨g, cap, cur, hv, hgg, hh, hnn, hm1, hs1, ht1⟩
        · rw [h3.1] at hg; cases hg
        · rw [hv] at hg
          injection hg with hg
          have hg2 : g = w.heap.size + 1 := hg
          rw [hg2] at hh
          have e2 := Z2.out
          unfold Blk at e2
          rw [hh] at e2
          injection e2 with e2
          injection e2 with _ e3 _
          exact absurd e3 (by decide)⟩, fun i j hi hj g hij hg => Hap.out i j hi hj g hij (by have := Hrs.out; omega) (by have := Hrs.out; omega) hg⟩)
      have HB5 := Lib.hid (Hbe.out.trans (hch.below Hbe.out.size fun g hg e => by omega))
      have k0 := hbk.cell 0
      have k1 := hbk.cell 1
      have k2 := hbk.cell 2
      simp at k0 k1 k2
      clear hW5 hbk hch e0 e1 e2 e3 e4 e5 f0 f1 f2
      refine bodyPost_ret (v := .agg #[.slice (some ⟨tb, 0, none⟩) k k, .int .i64 log, .int .i64 next]) (by simp [results, Tryz.results31, go_sem, k0, k1, k2]) rfl ⟨tb, raws, rfl, Hfin.out, HB5.out⟩
end Go.Proofs.YtcijhhnbhnaiaaaGreat

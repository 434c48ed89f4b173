/- 'DiskFail', walked. -/
import Derived.Test.YtnngdflamkdgaaaTwin
import Derived.Deep.RegionHeld3
import Derived.BigQuiet
namespace Go.Proofs.Ytnngdflamkdgaaa
open Go.RowKit Go.Maps
open Dsk

theorem Twin.doneA {w0 w : World} {X : Nat → Prop} {a b : Value} {da db : Dk} (h : Twin w0 X w a b da db) (x : ActS) (hx : ActOk w w0.heap.size x) (hkl : x.keep.length ≤ 1099511627776) :
    Calls Try.prog 21 #[a, actV x] w fun e w' => e = .returned (.int .i64 (stepA da x).1) ∧ Twin w0 X w' a b (stepA da x).2 db ∧ Keeps X w w' :=
  h.on (Q := fun e => e = .returned (.int .i64 (stepA da x).1)) fun _ _ l => l.done x hx hkl
theorem Twin.doneB {w0 w : World} {X : Nat → Prop} {a b : Value} {da db : Dk} (h : Twin w0 X w a b da db) (x : ActS) (hx : ActOk w w0.heap.size x) (hkl : x.keep.length ≤ 1099511627776) :
    Calls Try.prog 21 #[b, actV x] w fun e w' => e = .returned (.int .i64 (stepA db x).1) ∧ Twin w0 X w' a b da (stepA db x).2 ∧ Keeps X w w' :=
  (h.swap.doneA x hx hkl).mono fun _ _ ⟨q, t, k⟩ => ⟨q, t.swap, k⟩
theorem Twin.readyA {w0 w : World} {X : Nat → Prop} {a b : Value} {da db : Dk} (h : Twin w0 X w a b da db) :
    Calls Try.prog 36 #[a] w fun e w' => e = .returned (.bool true) ∧ Twin w0 X w' a b (readyD da) db ∧ Keeps X w w' :=
  h.on (Q := fun e => e = .returned (.bool true)) fun _ _ l => ready_at l
theorem Twin.readyB {w0 w : World} {X : Nat → Prop} {a b : Value} {da db : Dk} (h : Twin w0 X w a b da db) :
    Calls Try.prog 36 #[b] w fun e w' => e = .returned (.bool true) ∧ Twin w0 X w' a b da (readyD db) ∧ Keeps X w w' :=
  (h.swap.readyA).mono fun _ _ ⟨q, t, k⟩ => ⟨q, t.swap, k⟩
theorem Twin.failA {w0 w : World} {X : Nat → Prop} {a b : Value} {da db : Dk} (h : Twin w0 X w a b da db) (hoff : da.off = false) (n : Int) (hn : 0 ≤ n ∧ n ≤ 9223372036854775807) (kv0 : Value) (keep : List Int) {S : Nat → Prop} (hk : KeepR w S kv0 keep) (hkl : keep.length ≤ 1099511627776) :
    Calls Try.prog 13 #[a, .int .i64 n, kv0] w fun e w' => e = .returned (.int .i64 0) ∧ Twin w0 X w' a b (armed da n keep) db ∧ Keeps X w w' := by
  refine h.on (Q := fun e => e = .returned (.int .i64 0)) fun _ _ l => ?_
  have := l.fail n hn.2 kv0 keep hk hkl
  rw [fail_armed hoff n hn.1 keep] at this
  exact this
/-- One more disk beside. -/
theorem played_beside (v : Value) (l : List ActS) {w0 w : World} {a : Value} {da : Dk} (h1 : Live w0 (fun _ => False) w a da) {B : Nat} (hB : B ≤ w.heap.size) (h : RdA w B v l) (hs : Small l) :
    Calls Try.prog 33 #[.int .u16 3000, v] w fun e w' => ∃ u, e = .returned u ∧ Twin w0 (fun _ => False) w' a u da (playsA (Dk.new 3001) l) := by
  refine (played_any 3000 (by omega) v l w hB h hs).mono ?_
  rintro e w' ⟨u, rfl, hl⟩
  exact ⟨u, rfl, Twin.pair h1 hl⟩

theorem blk6 {w : World} {b : Nat} {t : TypeId} {c0 c1 c2 c3 c4 c5 : Value} (h : Blk w b t #[c0, c1, c2, c3, c4, c5]) : w.cell? ⟨b, 0, none⟩ = some c0 ∧ w.cell? ⟨b, 1, none⟩ = some c1 ∧ w.cell? ⟨b, 2, none⟩ = some c2 ∧ w.cell? ⟨b, 3, none⟩ = some c3 ∧ w.cell? ⟨b, 4, none⟩ = some c4 ∧ w.cell? ⟨b, 5, none⟩ = some c5 :=
  ⟨h.cell 0, h.cell 1, h.cell 2, h.cell 3, h.cell 4, h.cell 5⟩
set_option maxRecDepth 100000 in
set_option maxHeartbeats 8000000 in
theorem diskFail_any (v1 v2 : Value) (l1 l2 : List ActS) (n : Int) (hn : 0 ≤ n ∧ n ≤ 255) (kv : Value) (keep : List Int) (w : World) (h1 : RdA w w.heap.size v1 l1) (hm1 : l1.length ≤ maxLen) (h2 : RdA w w.heap.size v2 l2) (hm2 : l2.length ≤ maxLen) (hk : KeepR w (fun k => w.heap.size ≤ k) kv keep) (hkm : keep.length ≤ maxLen) :
    Calls Try.prog 9 #[.agg #[v1, v2], .int .u8 n, kv] w fun e w' => e = .returned (.bool true) ∧ Below w.heap.size w w' := by
  have hm1' : l1.length ≤ 9223372036854775807 := by unfold maxLen at hm1; omega
  have hm2' : l2.length ≤ 9223372036854775807 := by unfold maxLen at hm2; omega
  have hkm2 : keep.length ≤ 9223372036854775807 := by unfold maxLen at hkm; omega
  have HG1 := Lib.hid (fun (W : World) (hb : Below w.heap.size w W) => great_any v1 l1 w.heap.size W (h1.chg (Chg.of_below hb (S := fun _ => False)) (fun _ e => e.elim)) hm1')
  have HG2 := Lib.hid (fun (W : World) (hb : Below w.heap.size w W) => great_any v2 l2 w.heap.size W (h2.chg (Chg.of_below hb (S := fun _ => False)) (fun _ e => e.elim)) hm2')
  obtain ⟨x1, c1, hv1, hj⟩ := id h1
  subst hv1
  clear hj
  obtain ⟨x2, c2, hv2, hj⟩ := id h2
  subst hv2
  clear hj
  obtain ⟨kx, kc, hkv, hj1, hj2⟩ := id hk
  subst hkv
  clear hj1 hj2
  have H1 := Lib.hid h1
  have H2 := Lib.hid h2
  have Hk := Lib.hid hk
  obtain ⟨hn1, hn2⟩ := hn
  clear h1 h2 hk hm1 hm2 hkm
  go_enter Try.func9, Try.ntmps9
  go_wp2_with fail
  refine (HG1.out _ ((Below.refl _ _).alloc (Nat.le_refl _) _)).mono ?_
  rintro e w0 ⟨b, rfl, hsm, rfl⟩
  cases b with
  | true =>
    clear hsm
    go_wp2_with fail
    go_ret
    exact ⟨rfl, (Below.refl _ _).alloc (Nat.le_refl _) _⟩
  | false =>
    have Hs1 := Lib.hid (hsm rfl)
    clear hsm
    go_wp2_with fail
    refine (HG2.out _ ((Below.refl _ _).alloc (Nat.le_refl _) _)).mono ?_
    rintro e w0 ⟨b, rfl, hsm, rfl⟩
    cases b with
    | true =>
      clear hsm
      go_wp2_with fail
      go_ret
      exact ⟨rfl, (Below.refl _ _).alloc (Nat.le_refl _) _⟩
    | false =>
      have Hs2 := Lib.hid (hsm rfl)
      clear hsm
      by_cases hk100 : keep.length ≤ 100
      case neg =>
        have g1 : (100 : Int) < keep.length := by omega
        clear hk100
        go_wp2_with fail
        go_ret
        exact ⟨rfl, (Below.refl _ _).alloc (Nat.le_refl _) _⟩
      have g1 : ¬ (100 : Int) < keep.length := by omega
      have g2 : decide ((100 : Int) < keep.length) = false := decide_eq_false (by omega)
      have g3 : decide (100 < keep.length) = false := decide_eq_false (by omega)
      go_wp2_with fail
      obtain ⟨wb, hwb⟩ : ∃ wb, wb = w.alloc (.cells #[.slice x1 l1.length c1, .slice x2 l2.length c2] 66 (0, 0)) := ⟨_, rfl⟩
      rw [← hwb]
      have hbx : Below w.heap.size w wb := by rw [hwb]; exact (Below.refl _ _).alloc (Nat.le_refl _) _
      have cx0 : wb.cell? ⟨w.heap.size, 0, none⟩ = some (.slice x1 l1.length c1) := by rw [hwb, (Blk.alloc_new w _ _).cell]; rfl
      have cx1 : wb.cell? ⟨w.heap.size, 1, none⟩ = some (.slice x2 l2.length c2) := by rw [hwb, (Blk.alloc_new w _ _).cell]; rfl
      have hzb : wb.heap.size = w.heap.size + 1 := by rw [hwb]; simp
      have Hbx := Lib.hid hbx
      have Hcx := Lib.hid (And.intro cx0 cx1)
      have hP1 := Lib.hid (played_any 3000 (by omega) _ l1 wb.drew (B := w.heap.size) (by show w.heap.size ≤ wb.heap.size; omega) (H1.out.chg (Chg.of_below (hbx.drew) (S := fun _ => False)) (fun _ e => e.elim)) Hs1.out)
      have Hzb := Lib.hid hzb
      clear hbx hwb cx1 hzb
      go_region_held3 (fun w' => w'.cell? ⟨w.heap.size, 0, none⟩ = some (.slice x1 l1.length c1))
        (first | go_keep | ((refine (hla.below.cell (p := ⟨w.heap.size, 0, none⟩) (show w.heap.size < wb.heap.size by rw [Hzb.out]; omega)).trans ?_; go_keep)) | ((refine (htw.below.cell (p := ⟨w.heap.size, 0, none⟩) (show w.heap.size < wb.heap.size by rw [Hzb.out]; omega)).trans ?_; go_keep)))
        (first
          | ((go_at_call 33; refine hP1.out.mono ?_; rintro e w1 ⟨ua, rfl, hla⟩; obtain ⟨ba, rfl⟩ := hla.ptr))
          | ((go_at_call 33; refine (played_beside _ l1 hla (B := w.heap.size) (by have := hla.size; rw [show wb.drew.heap.size = wb.heap.size from rfl, Hzb.out] at this; omega) (H1.out.chg (Chg.of_below ((Hbx.out.drew).trans (hla.below.mono (show w.heap.size ≤ wb.heap.size by rw [Hzb.out]; omega))) (S := fun _ => False)) (fun _ e => e.elim)) Hs1.out).mono ?_; rintro e w2 ⟨ub, rfl, htw⟩; obtain ⟨bb, rfl⟩ := htw.second.ptr)))
      obtain ⟨d0, hd0⟩ : ∃ d0, d0 = playsA (Dk.new 3001) l1 := ⟨_, rfl⟩
      have Hon := Lib.hid (show OffNone d0 from by rw [hd0]; exact offNone_plays (fun e => by cases e) l1)
      have HT := Lib.hid (show Twin wb.drew (fun _ => False) w2 (.pointer (some ⟨ba, 0, none⟩)) (.pointer (some ⟨bb, 0, none⟩)) d0 d0 from by rw [hd0]; exact htw)
      have Hlb := Lib.hid (show w.heap.size < wb.drew.heap.size from by show w.heap.size < wb.heap.size; rw [Hzb.out]; omega)
      have Hbd := Lib.hid (show Below w.heap.size w wb.drew from Hbx.out.drew)
      clear hla htw hP1 hd0 cx0
      go_wp2_with fail
      refine HT.out.readyA.mono ?_
      rintro e w3 ⟨rfl, ht3, _⟩
      have HT3 := Lib.hid ht3
      clear ht3
      go_wp2_with fail
      refine HT3.out.readyB.mono ?_
      rintro e w4 ⟨rfl, ht4, _⟩
      have HT4 := Lib.hid ht4
      clear ht4
      have hnm : 0 ≤ n % 16 ∧ n % 16 ≤ 15 := by omega
      obtain ⟨n0, hn0⟩ : ∃ n0 : Nat, n % 16 = n0 := ⟨(n % 16).toNat, by omega⟩
      have hn15 : n0 ≤ 15 := by omega
      have hk4 := Hk.out.chg (Chg.of_below (Hbd.out.trans (HT4.out.below.mono (Nat.le_of_lt Hlb.out))) (S := fun _ => False)) (fun _ e => e.elim)
      have HF := Lib.hid (HT4.out.failA (readyD_off d0) n0 ⟨by omega, by omega⟩ _ keep hk4 (by omega))
      have qn : IntKind.i64.wrap (n0 : Int) = n0 := IntWalk.i64_in _ ⟨by omega, by omega⟩
      clear hk4 hnm
      go_wp2_with fail
      refine HF.out.mono ?_
      rintro e w5 ⟨rfl, ht5, _⟩
      have Hro := Lib.hid (readyD_off d0)
      have Hrf := Lib.hid (readyD_fail Hon.out)
      have HT5 := Lib.hid ht5
      clear ht5
      go_wp2_with fail
      go_loopw [9, 10, 11, 12, 13, 14, 15] (fun v9 v10 _ _ _ _ _ wr => ∃ (i left : Nat) (db : Dk), v9 = .int .i64 left ∧ v10 = .int .i64 i ∧ i ≤ l2.length ∧ left ≤ 15 ∧ db.off = false ∧ db.fail = none ∧ Twin wb.drew (fun _ => False) wr (.pointer (some ⟨ba, 0, none⟩)) (.pointer (some ⟨bb, 0, none⟩)) (armed db left keep) db) (fun _ v10 _ _ _ _ _ _ => l2.length - (intOf v10).toNat)
      case atStart => exact ⟨0, n0, readyD d0, rfl, rfl, Nat.zero_le _, hn15, Hro.out, Hrf.out, HT5.out⟩
      case round =>
        obtain ⟨i, left, db, rfl, rfl, hi, hl15, hoff, hfail, ht⟩ := hrel
        have HT6 := Lib.hid ht
        have Hoff := Lib.hid hoff
        have Hfail := Lib.hid hfail
        have cxr : wr.cell? ⟨w.heap.size, 1, none⟩ = some (.slice x2 l2.length c2) := (ht.below.cell (p := ⟨w.heap.size, 1, none⟩) Hlb.out).trans Hcx.out.2
        have Hbr := Lib.hid (Hbd.out.trans (ht.below.mono (Nat.le_of_lt Hlb.out)))
        have hra := H2.out.chg (Chg.of_below Hbr.out (S := fun _ => False)) (fun _ e => e.elim)
        clear ht hoff hfail
        by_cases hlt : i < l2.length
        · obtain ⟨x', c', hv, hel⟩ := hra
          injection hv with e1 e2 e3
          subst e1 e3
          obtain ⟨ho, b, off, rfl, hbl0, hbl, hc⟩ := hel i hlt
          have hc2 := act_load (b := b) (off := off + i * 6) (a := l2[i]) (fun j hj => by rw [Nat.add_assoc]; exact hc j hj)
          obtain ⟨k0, k1, k2, k3, k4, k5⟩ := hc2
          obtain ⟨x, hx⟩ : ∃ x, x = l2[i] := ⟨_, rfl⟩
          have hkl : x.keep.length ≤ 100 := by rw [hx]; exact (Hs2.out.2 i hlt).2.2.2
          rw [← hx] at k0 k1 k2 k3 k4 k5 ho
          have hk256 := ho.kind
          have hii : (i : Int) < l2.length := by omega
          obtain ⟨kx2, kc2, hkv2⟩ := ho.kv.form
          rw [hkv2] at k5
          have Ho := Lib.hid (show ∀ W : World, Below w.heap.size w W → ActOk W wb.drew.heap.size x from fun W hb => by
            obtain ⟨_, _, hv0, hel0⟩ := H2.out.chg (Chg.of_below hb (S := fun _ => False)) (fun _ e => e.elim)
            have ho0 := (hel0 i hlt).1
            rw [← hx] at ho0
            exact ⟨ho0.kind, ho0.name, ho0.other, ho0.data, ho0.n, ho0.kv.mono fun k hk => Nat.le_trans (Nat.le_of_lt Hlb.out) hk, ho0.keep⟩)
          have HkvA := Lib.hid (show actV x = .agg #[.int .u8 x.kind, .string x.name, .string x.other, .string x.data, .int .i64 x.n, .slice kx2 x.keep.length kc2] from by unfold actV; rw [hkv2])
          clear hc hel ho hx e2 hkv2
          by_cases h7 : x.kind % 12 ≤ 7
          case neg =>
            have q7 : (7 : Int) < (x.kind : Int) % 12 := by omega
            have q7' : 7 < x.kind % 12 := by omega
            clear h7
            go_wp2_with fail
            have HE := Lib.hid (HT6.out.keep ((Below.refl wr.heap.size wr).alloc (Nat.le_refl _) (.cells #[.int .u8 x.kind, .string x.name, .string x.other, .string x.data, .int .i64 x.n, .slice kx2 x.keep.length kc2] 44 (0, 0))))
            go_roundw
            case rel => exact ⟨i + 1, left, db, rfl, by go_num, by omega, hl15, Hoff.out, Hfail.out, HE.out⟩
            case measure => simp [intOf]; omega
          have q7 : decide ((7 : Int) < (x.kind : Int) % 12) = false := decide_eq_false (by omega)
          have q7' : decide (7 < x.kind % 12) = false := decide_eq_false (by omega)
          go_wp2_with fail
          obtain ⟨wa, hwa⟩ : ∃ wa, wa = wr.alloc (.cells #[.int .u8 x.kind, .string x.name, .string x.other, .string x.data, .int .i64 x.n, .slice kx2 x.keep.length kc2] 44 (0, 0)) := ⟨_, rfl⟩
          rw [← hwa]
          have Hba := Lib.hid (show Below wr.heap.size wr wa from by rw [hwa]; exact (Below.refl _ _).alloc (Nat.le_refl _) _)
          have Hblk := Lib.hid (show Blk wa wr.heap.size 44 #[.int .u8 x.kind, .string x.name, .string x.other, .string x.data, .int .i64 x.n, .slice kx2 x.keep.length kc2] from by rw [hwa]; exact Blk.alloc_new wr _ _)
          clear hwa k0 k1 k2 k3 k4 k5
          refine (HT6.out.keep Hba.out).second.names.mono ?_
          rintro e w7a ⟨un, rfl, hun, hb7a⟩
          obtain ⟨nx, nc, hnx, hj1⟩ := hun.each
          subst hnx
          clear hj1
          rw [names_len] at *
          have Hb7a := Lib.hid (Hba.out.trans (hb7a.mono Hba.out.size))
          have Hblk2 := Lib.hid (Hblk.out.below hb7a)
          have Hun := Lib.hid (hun.base Hba.out.size)
          clear hun hb7a
          go_wp2_with fail
          refine ((HT6.out.keep Hb7a.out).second.texts Hoff.out).mono ?_
          rintro e w7 ⟨ud, rfl, hud, hb7⟩
          obtain ⟨dx, dc, hdx, hj1⟩ := hud.each
          subst hdx
          clear hj1
          rw [datas_len] at *
          have HT7 := Lib.hid (HT6.out.add (Hb7a.out.trans (hb7.mono Hb7a.out.size)))
          have Hblk3 := Lib.hid (Hblk2.out.below hb7)
          have Hun7 := Lib.hid (Hun.out.kept hb7)
          have Hud7 := Lib.hid (hud.base Hb7a.out.size)
          have Hbl7 := Lib.hid (show Also (fun _ => False) wr w7 wr.heap.size from .inr ⟨Nat.le_refl _, by have := Hblk3.out.lt; omega⟩)
          clear hud hb7
          have hd8 := (HT7.out.keep ((Below.refl w7.heap.size w7).drew)).doneA x (Ho.out _ ((Hbd.out.trans (HT7.out.below.mono (Nat.le_of_lt Hlb.out))).drew)) (by omega)
          rw [HkvA.out] at hd8
          have Hd8 := Lib.hid hd8
          have hc7 := blk6 (show Blk w7.drew wr.heap.size 44 _ from Hblk3.out)
          clear hd8
          go_wp2_with fail
          go_region_held3 (fun w' => w'.cell? ⟨wr.heap.size, 0, none⟩ = some (.int .u8 x.kind) ∧ w'.cell? ⟨wr.heap.size, 1, none⟩ = some (.string x.name) ∧ w'.cell? ⟨wr.heap.size, 2, none⟩ = some (.string x.other) ∧ w'.cell? ⟨wr.heap.size, 3, none⟩ = some (.string x.data) ∧ w'.cell? ⟨wr.heap.size, 4, none⟩ = some (.int .i64 x.n) ∧ w'.cell? ⟨wr.heap.size, 5, none⟩ = some (.slice kx2 x.keep.length kc2))
            (first | (with_reducible exact hc7) | (with_reducible exact blk6 hblk8.out) | (with_reducible exact blk6 hblk9.out))
            (first
              | ((go_at_call 21; have hd9 := ht8.doneB x (Ho.out _ (Hbd.out.trans (ht8.below.mono (Nat.le_of_lt Hlb.out)))) (by omega); rw [HkvA.out] at hd9; refine hd9.mono ?_; rintro e w9 ⟨rfl, ht9, hk9⟩; have hblk9 := Lib.hid (hblk8.out.chg hk9 (fun e => e Hbl7.out))))
              | ((go_at_call 21; refine Hd8.out.mono ?_; rintro e w8 ⟨rfl, ht8, hk8⟩; have hblk8 := Lib.hid ((show Blk w7.drew wr.heap.size 44 _ from Hblk3.out).chg hk8 (fun e => e Hbl7.out)))))
          have HT9 := Lib.hid ht9
          have Hk9 := Lib.hid (((show Keeps (Also (fun _ => False) wr w7) w7 w7.drew from Chg.drew (Chg.refl _ _)).trans hk8).trans hk9)
          have Hbk9 := Lib.hid hblk9.out
          have hkind := (hc7.1)
          have hbes := beside Hoff.out Hfail.out (a := x) h7
          clear hd9 ht8 hk8 hblk8 ht9 hk9 hblk9 hc7 hkind Hd8 Hblk3 Hblk2 Hblk
          rcases hbes with ⟨hf0, hsame, hall⟩ | ⟨hf0, m, hdm, hall⟩
          · have ha := hall left keep
            obtain ⟨f, hf⟩ : ∃ f, f = (stepA db x).1 := ⟨_, rfl⟩
            rw [← hf] at hf0 ha
            rw [ha, hsame] at HT9
            rw [ha, ← hf]
            have qf : (f != 0) = true := by simp [hf0]
            have qf2 : (f != f) = false := by simp
            have HE := Lib.hid (HT9.out.drop (Y := fun _ => False) (fun _ e => e.elim))
            clear ha hall hsame hf hf0
            go_wp2_with fail
            go_roundw
            case rel => exact ⟨u6, _, _, ⟨i + 1, left, rfl, by go_num, by omega, hl15, db, Hoff.out, Hfail.out, HE.out⟩, rfl, rfl, rfl⟩
            case measure => simp [intOf]; omega
          · have ha := hall left keep
            rw [hf0]
            rw [hdm] at HT9
            by_cases hl0 : 0 < left
            · rw [if_neg (by omega)] at ha
              rw [ha] at HT9
              rw [ha]
              have ql : decide ((0 : Int) < left) = true := decide_eq_true (by omega)
              have ql' : decide (0 < left) = true := decide_eq_true hl0
              have qs : IntKind.i64.wrap ((left : Int) - 1) = (left : Int) - 1 := IntWalk.i64_in _ ⟨by omega, by omega⟩
              have HE := Lib.hid (HT9.out.drop (Y := fun _ => False) (fun _ e => e.elim))
              have hnl : (left : Int) - 1 = ((left - 1 : Nat) : Int) := by omega
              have HNL := Lib.hid hnl
              have HWo := Lib.hid (show (withF db m).off = false from Hoff.out)
              have HWf := Lib.hid (show (withF db m).fail = none from Hfail.out)
              clear ha hall hdm hf0 hnl
              go_wp2_with fail
              go_roundw
              case rel => exact ⟨u6, _, _, ⟨i + 1, left - 1, by go_num, by go_num, by omega, by omega, withF db m, HWo.out, HWf.out, by rw [← HNL.out]; exact HE.out⟩, rfl, rfl, rfl⟩
              case measure => simp [intOf]; omega
            · obtain rfl : left = 0 := by omega
              rw [if_pos (by omega)] at ha
              rw [ha] at HT9
              rw [ha]
              have HWo := Lib.hid (show (withF db m).off = false from Hoff.out)
              clear ha hall hdm hf0
              by_cases h4 : x.kind % 12 < 4
              · rw [if_pos h4] at HT9
                have q4 : decide ((x.kind : Int) % 12 < 4) = true := decide_eq_true (by omega)
                have q4' : decide (x.kind % 12 < 4) = true := decide_eq_true h4
                have hcb := blk6 Hbk9.out
                have hcb0 := hcb.1
                clear hcb
                go_wp2_with fail
                refine HT9.out.second.names.mono ?_
                rintro e v1 ⟨um, rfl, hum, hb1⟩
                obtain ⟨mx, mc, hmx, hj1⟩ := hum.each
                subst hmx
                clear hj1
                rw [names_len] at *
                have HTa := Lib.hid (HT9.out.add hb1)
                have Hum := Lib.hid hum
                have Hb1 := Lib.hid hb1
                clear hum hb1 hcb0
                go_wp2_with fail
                refine (HTa.out.second.texts HWo.out).mono ?_
                rintro e v2 ⟨ue, rfl, hue, hb2⟩
                obtain ⟨ex, ec, hex, hj1⟩ := hue.each
                subst hex
                clear hj1
                rw [datas_len] at *
                have HTb := Lib.hid (HT9.out.add (Hb1.out.trans (hb2.mono Hb1.out.size)))
                have Hum2 := Lib.hid (Hum.out.kept hb2)
                have Hue2 := Lib.hid (hue.base Hb1.out.size)
                clear hue hb2
                go_wp2_with fail
                refine HTb.out.first.up.mono ?_
                rintro e v2' ⟨rfl, rfl⟩
                rw [show ((armed (withF db m) ((0 : Nat) : Int) keep).crashed keep).off = true from rfl]
                go_wp2_with fail
                refine (HTb.out.first.startK (start_down _ keep)).mono ?_
                rintro e v3 ⟨rfl, hl3, hk3⟩
                have HL3 := Lib.hid hl3
                have Hum3 := Lib.hid (Hum2.out.keeps hk3)
                have Hue3 := Lib.hid (Hue2.out.keeps hk3)
                clear hl3 hk3
                go_wp2_with fail
                have hbg : Calls Try.prog 37 #[.pointer (some ⟨ba, 0, none⟩), .slice mx (withF db m).files.length mc, .slice ex (withF db m).files.length ec] v3 fun e w' => e = .returned (.bool true) ∧ Below v3.heap.size v3 w' := by
                  obtain ⟨F, hdk, _⟩ := HL3.out
                  obtain ⟨hcn, hcp⟩ := crashed_begun (d := armed (withF db m) ((0 : Nat) : Int) keep) keep
                  exact begun_any (m := (withF db m).files) hdk rfl _ _ Hum3.out.rd Hue3.out.rd hcn (fun i hi hi' => hcp i hi hi') (fun p hp => by have h1 := data_le hp; have h2 := HTb.out.second.ok.fits; have h3 := HTb.out.second.ok.room2; omega)
                refine hbg.mono ?_
                rintro e v4 ⟨rfl, hb4⟩
                have HL4 := Lib.hid (HL3.out.keep hb4)
                clear hb4 hbg
                go_wp2_with fail
                refine (does_any _).mono ?_
                rintro e v5 ⟨rfl, hb5⟩
                have HB := Lib.hid (Hbd.out.trans ((HL4.out.below.trans (hb5.mono HL4.out.size)).mono (Nat.le_of_lt Hlb.out)))
                clear hb5
                go_wp2_with fail
                go_ret
                exact ⟨rfl, HB.out⟩
              · rw [if_neg h4] at HT9
                have q4 : decide ((x.kind : Int) % 12 < 4) = false := decide_eq_false (by omega)
                have q4' : decide (x.kind % 12 < 4) = false := decide_eq_false h4
                have hcb := blk6 Hbk9.out
                have hcb0 := hcb.1
                clear hcb
                go_wp2_with fail
                refine HT9.out.first.up.mono ?_
                rintro e v2' ⟨rfl, rfl⟩
                rw [show ((armed (withF db db.files) ((0 : Nat) : Int) keep).crashed keep).off = true from rfl]
                go_wp2_with fail
                refine (HT9.out.first.startK (start_down _ keep)).mono ?_
                rintro e v3 ⟨rfl, hl3, hk3⟩
                have HL3 := Lib.hid hl3
                have Hum3 := Lib.hid (Hun7.out.keeps (Hk9.out.trans hk3))
                have Hue3 := Lib.hid (Hud7.out.keeps (Hk9.out.trans hk3))
                clear hl3 hk3 hcb0
                go_wp2_with fail
                have hbg : Calls Try.prog 37 #[.pointer (some ⟨ba, 0, none⟩), .slice nx db.files.length nc, .slice dx db.files.length dc] v3 fun e w' => e = .returned (.bool true) ∧ Below v3.heap.size v3 w' := by
                  obtain ⟨F, hdk, _⟩ := HL3.out
                  obtain ⟨hcn, hcp⟩ := crashed_begun (d := armed (withF db db.files) ((0 : Nat) : Int) keep) keep
                  exact begun_any (m := db.files) hdk rfl _ _ Hum3.out.rd Hue3.out.rd hcn (fun i hi hi' => hcp i hi hi') (fun p hp => by have h1 := data_le hp; have h2 := HT7.out.second.ok.fits; have h3 := HT7.out.second.ok.room2; omega)
                refine hbg.mono ?_
                rintro e v4 ⟨rfl, hb4⟩
                have HL4 := Lib.hid (HL3.out.keep hb4)
                clear hb4 hbg
                go_wp2_with fail
                refine (does_any _).mono ?_
                rintro e v5 ⟨rfl, hb5⟩
                have HB := Lib.hid (Hbd.out.trans ((HL4.out.below.trans (hb5.mono HL4.out.size)).mono (Nat.le_of_lt Hlb.out)))
                clear hb5
                go_wp2_with fail
                go_ret
                exact ⟨rfl, HB.out⟩
        · obtain rfl : i = l2.length := by omega
          clear hra
          go_wp2_with fail
          refine HT6.out.first.up.mono ?_
          rintro e v1' ⟨rfl, rfl⟩
          rw [show (armed db left keep).off = false from Hoff.out]
          go_wp2_with fail
          refine HT6.out.first.names.mono ?_
          rintro e v1 ⟨un, rfl, hun, hb1⟩
          obtain ⟨nx, nc, hnx, hj1⟩ := hun.each
          subst hnx
          clear hj1
          rw [names_len] at *
          rw [show (armed db left keep).files = db.files from rfl] at hun ⊢
          have HT7 := Lib.hid (HT6.out.keep hb1)
          have Hun := Lib.hid hun
          clear hun hb1
          go_wp2_with fail
          refine HT7.out.second.names.mono ?_
          rintro e v2 ⟨um, rfl, hum, hb2⟩
          obtain ⟨mx, mc, hmx, hj1⟩ := hum.each
          subst hmx
          clear hj1
          rw [names_len] at *
          have HT8 := Lib.hid (HT7.out.keep hb2)
          have hcn := HT8.out.second.ok.count
          have Hst := Lib.hid (show Calls Try.prog 22 #[.slice nx db.files.length nc, .slice mx db.files.length mc] v2 fun e w' => e = .returned (.bool true) ∧ Below v2.heap.size v2 w' from by
            have l2 := (names_len db.files)
            refine (sameTexts_any _ _ _ _ v2 (Hun.out.kept hb2).rd hum.rd (by rw [l2]; omega) (by rw [l2]; omega)).mono ?_
            rintro e w' ⟨rfl, hb⟩
            exact ⟨by simp, hb⟩)
          clear hum hb2
          go_wp2_with fail
          refine Hst.out.mono ?_
          rintro e v3 ⟨rfl, hb3⟩
          have HT9 := Lib.hid (HT8.out.keep hb3)
          clear hb3
          go_wp2_with fail
          refine (HT9.out.first.texts Hoff.out).mono ?_
          rintro e v4 ⟨ud, rfl, hud, hb4⟩
          obtain ⟨dx, dc, hdx, hj1⟩ := hud.each
          subst hdx
          clear hj1
          rw [datas_len] at *
          rw [show (armed db left keep).files = db.files from rfl] at hud ⊢
          have HT10 := Lib.hid (HT9.out.keep hb4)
          have Hud := Lib.hid hud
          clear hud hb4
          go_wp2_with fail
          refine (HT10.out.second.texts Hoff.out).mono ?_
          rintro e v5 ⟨ue, rfl, hue, hb5⟩
          obtain ⟨ex, ec, hex, hj1⟩ := hue.each
          subst hex
          clear hj1
          rw [datas_len] at *
          have HT11 := Lib.hid (HT10.out.keep hb5)
          have Hst2 := Lib.hid (show Calls Try.prog 22 #[.slice dx db.files.length dc, .slice ex db.files.length ec] v5 fun e w' => e = .returned (.bool true) ∧ Below v5.heap.size v5 w' from by
            have l2 := (datas_len db.files)
            refine (sameTexts_any _ _ _ _ v5 (Hud.out.kept hb5).rd hue.rd (by rw [l2]; omega) (by rw [l2]; omega)).mono ?_
            rintro e w' ⟨rfl, hb⟩
            exact ⟨by simp, hb⟩)
          clear hue hb5
          go_wp2_with fail
          refine Hst2.out.mono ?_
          rintro e v6 ⟨rfl, hb6⟩
          have HT12 := Lib.hid (HT11.out.keep hb6)
          clear hb6
          go_wp2_with fail
          refine HT12.out.first.unsynced.mono ?_
          rintro e v7 ⟨ui, rfl, hui, hb7⟩
          obtain ⟨ix, ic, hix, hj1⟩ := hui.each
          subst hix
          clear hj1
          rw [unsynced_length] at *
          rw [show (armed db left keep).unsynced = db.unsynced from rfl, show (armed db left keep).files = db.files from rfl] at hui
          rw [show (armed db left keep).files = db.files from rfl]
          have HT13 := Lib.hid (HT12.out.keep hb7)
          have Hui := Lib.hid hui
          clear hui hb7
          go_wp2_with fail
          refine HT13.out.second.unsynced.mono ?_
          rintro e v8 ⟨uj, rfl, huj, hb8⟩
          obtain ⟨jx, jc, hjx, hj1⟩ := huj.each
          subst hjx
          clear hj1
          rw [unsynced_length] at *
          have HT14 := Lib.hid (HT13.out.keep hb8)
          have Hst3 := Lib.hid (show Calls Try.prog 26 #[.slice ix db.files.length ic, .slice jx db.files.length jc] v8 fun e w' => e = .returned (.bool true) ∧ Below v8.heap.size v8 w' from by
            have l2 := unsynced_length db
            refine (sameInts_any _ _ _ _ v8 (Hui.out.kept hb8).rd huj.rd (by rw [l2]; omega) (by rw [l2]; omega)).mono ?_
            rintro e w' ⟨rfl, hb⟩
            exact ⟨by simp, hb⟩)
          clear huj hb8
          go_wp2_with fail
          refine Hst3.out.mono ?_
          rintro e v9 ⟨rfl, hb9⟩
          have HT15 := Lib.hid (HT14.out.keep hb9)
          clear hb9
          go_wp2_with fail
          refine (does_any _).mono ?_
          rintro e v10 ⟨rfl, hb10⟩
          have HB := Lib.hid (Hbd.out.trans ((HT15.out.below.trans (hb10.mono HT15.out.size)).mono (Nat.le_of_lt Hlb.out)))
          clear hb10
          go_wp2_with fail
          go_ret
          exact ⟨rfl, HB.out⟩
theorem walkDiskFail (x : (Value × List ActS) × (Value × List ActS)) (n : Int) (k : Value × List Int) (w : World) (h0 : (RdA w w.heap.size x.1.1 x.1.2 ∧ x.1.2.length ≤ maxLen) ∧ (RdA w w.heap.size x.2.1 x.2.2 ∧ x.2.2.length ≤ maxLen)) (h1 : 0 ≤ n ∧ n ≤ 255) (h2 : KeepR w (fun k => w.heap.size ≤ k) k.1 k.2 ∧ k.2.length ≤ maxLen) :
    Calls Try.prog 9 #[.agg #[x.1.1, x.2.1], .int .u8 n, k.1] w fun e w' => e = .returned (.bool true) ∧ Below w.heap.size w w' :=
  diskFail_any x.1.1 x.2.1 x.1.2 x.2.2 n h1 k.1 k.2 w h0.1.1 h0.1.2 h0.2.1 h0.2.2 h2.1 h2.2
end Go.Proofs.Ytnngdflamkdgaaa

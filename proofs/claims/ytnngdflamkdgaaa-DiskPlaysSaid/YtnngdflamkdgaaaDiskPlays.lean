/- 'DiskPlays', walked. -/
import Derived.Test.YtnngdflamkdgaaaPlaysStep2
import Derived.Test.YtnngdflamkdgaaaDiskDoes2
import Derived.Deep.RegionHeld3
import Derived.BigQuiet
namespace Go.Proofs.Ytnngdflamkdgaaa
set_option maxRecDepth 100000
open Go.RowKit Go.Maps
open Dsk

theorem blk6' {w : World} {b : Nat} {t : TypeId} {c0 c1 c2 c3 c4 c5 : Value} (h : Blk w b t #[c0, c1, c2, c3, c4, c5]) : w.cell? ⟨b, 0, none⟩ = some c0 ∧ w.cell? ⟨b, 1, none⟩ = some c1 ∧ w.cell? ⟨b, 2, none⟩ = some c2 ∧ w.cell? ⟨b, 3, none⟩ = some c3 ∧ w.cell? ⟨b, 4, none⟩ = some c4 ∧ w.cell? ⟨b, 5, none⟩ = some c5 :=
  ⟨h.cell 0, h.cell 1, h.cell 2, h.cell 3, h.cell 4, h.cell 5⟩
theorem act_loadP {w : World} {b off : Nat} {a : ActS} (hc : ∀ i, i < 6 → w.cell? ⟨b, off + i, none⟩ = (actCells a)[i]?) :
    w.cell? ⟨b, off, none⟩ = some (.int .u8 a.kind) ∧ w.cell? ⟨b, off + 1, none⟩ = some (.string a.name) ∧ w.cell? ⟨b, off + 2, none⟩ = some (.string a.other) ∧ w.cell? ⟨b, off + 3, none⟩ = some (.string a.data) ∧ w.cell? ⟨b, off + 4, none⟩ = some (.int .i64 a.n) ∧ w.cell? ⟨b, off + 5, none⟩ = some a.kv :=
  ⟨hc 0 (by omega), hc 1 (by omega), hc 2 (by omega), hc 3 (by omega), hc 4 (by omega), hc 5 (by omega)⟩
set_option maxHeartbeats 16000000 in
theorem diskPlays_any (cap : Int) (hcap : -9223372036854775808 ≤ cap ∧ cap ≤ 9223372036854775807) (v : Value) (l : List ActS) (w : World) (h : RdA w w.heap.size v l) (hm : l.length ≤ maxLen) :
    Calls Try.prog 6 #[.int .i64 cap, v] w fun e w' => e = .returned (.bool true) ∧ Below w.heap.size w w' := by
  have hm2 : l.length ≤ 9223372036854775807 := by unfold maxLen at hm; omega
  have hg := great_any v l w.heap.size w h hm2
  obtain ⟨x, c, hv, hj⟩ := id h
  subst hv
  clear hj
  have Hg := Lib.hid hg
  have H := Lib.hid h
  clear h hm hg
  go_enter Try.func6, Try.ntmps6
  go_wp2_with fail
  refine Hg.out.mono ?_
  rintro e w0 ⟨b, rfl, hsm, rfl⟩
  cases b with
  | true =>
    clear hsm
    go_wp2_with fail
    go_ret
    exact ⟨rfl, Below.refl _ _⟩
  | false =>
    have Hs := Lib.hid (hsm rfl)
    have hl150 : l.length ≤ 150 := Hs.out.1
    clear hsm Hg
    by_cases hc : cap < 1 ∨ 1048576 < cap
    · have Hn1 := Lib.hid (new_no cap w hc)
      have Hn2 := Lib.hid (refNew_no cap w hc hcap)
      clear hc
      go_wp2_with fail
      refine Hn1.out.mono ?_
      rintro e w1 ⟨rfl, rfl⟩
      go_wp2_with fail
      refine Hn2.out.mono ?_
      rintro e w1 ⟨rfl, rfl⟩
      go_wp2_with fail
      refine (does_any w).mono ?_
      rintro e w1 ⟨rfl, hb⟩
      have Hb := Lib.hid hb
      clear hb
      go_wp2_with fail
      go_ret
      exact ⟨rfl, Hb.out⟩
    obtain ⟨c0, hc0⟩ : ∃ c0 : Nat, cap = c0 := ⟨cap.toNat, by omega⟩
    have hc1 : 1 ≤ c0 ∧ c0 ≤ 1048576 := by omega
    subst hc0
    have HC := Lib.hid hc1
    clear hc hcap hc1
    go_wp2_with fail
    refine (live_new c0 w HC.out.1 HC.out.2).mono ?_
    rintro e w1 ⟨u, rfl, hl⟩
    obtain ⟨ba, rfl⟩ := hl.ptr
    have HL := Lib.hid hl
    clear hl
    go_wp2_with fail
    refine (rlive_new c0 w1 HC.out.1 HC.out.2).mono ?_
    rintro e w2 ⟨u, rfl, hl⟩
    obtain ⟨br, rfl⟩ := hl.ptr
    have HM := Lib.hid (Mate.pair HL.out hl)
    clear hl HL
    go_wp2_with fail
    go_loopw [9, 10, 11, 12, 13] (fun v9 _ _ _ _ wr => ∃ (i : Nat) (d : Dk), v9 = .int .i64 i ∧ i ≤ l.length ∧ Mate w (fun _ => False) wr (.pointer (some ⟨ba, 0, none⟩)) (.pointer (some ⟨br, 0, none⟩)) d d) (fun v9 _ _ _ _ _ => l.length - (intOf v9).toNat)
    case atStart => exact ⟨0, _, rfl, Nat.zero_le _, HM.out⟩
    case round =>
      obtain ⟨i, d, rfl, hi, hmt⟩ := hrel
      have HM := Lib.hid hmt
      clear hmt
      by_cases hlt : i < l.length
      · obtain ⟨x', c', hv, hel⟩ := H.out.chg (Chg.of_below HM.out.below (S := fun _ => False)) (fun _ e => e.elim)
        injection hv with e1 e2 e3
        subst e1 e3
        obtain ⟨ho, b, off, rfl, hb0, hb, hcl⟩ := hel i hlt
        obtain ⟨k0, k1, k2, k3, k4, k5⟩ := act_loadP (b := b) (off := off + i * 6) (a := l[i]) (fun j hj => by rw [Nat.add_assoc]; exact hcl j hj)
        obtain ⟨a, ha⟩ : ∃ a, a = l[i] := ⟨_, rfl⟩
        have hkl : a.keep.length ≤ 100 := by rw [ha]; exact (Hs.out.2 i hlt).2.2.2
        have hdl : a.data.size ≤ 3000 := by rw [ha]; exact (Hs.out.2 i hlt).2.2.1
        rw [← ha] at k0 k1 k2 k3 k4 k5 ho
        have Ho := Lib.hid ho
        have hii : (i : Int) < l.length := by omega
        obtain ⟨kx, kc, hkv⟩ := ho.kv.form
        obtain ⟨kk, hkk⟩ : ∃ kk : Int, kk = a.kind := ⟨_, rfl⟩
        rw [hkv] at k5
        rw [← hkk] at k0
        have Hkv := Lib.hid hkv
        have Hkk := Lib.hid hkk
        obtain ⟨n, hn⟩ : ∃ n, n = a.keep.length := ⟨_, rfl⟩
        rw [← hn] at k5 hkl
        have Hn := Lib.hid hn
        have hwn : IntKind.i64.wrap ((n : Int) + 1) = (n : Int) + 1 := IntWalk.i64_in _ ⟨by omega, by omega⟩
        obtain ⟨wA, hwA⟩ : ∃ wA, wA = wr.alloc (.cells #[.int .u8 kk, .string a.name, .string a.other, .string a.data, .int .i64 a.n, .slice kx n kc] 44 (0, 0)) := ⟨_, rfl⟩
        have hbA : Below wr.heap.size wr wA := by rw [hwA]; exact (Below.refl _ _).alloc (Nat.le_refl _) _
        have BA := Lib.hid (show Blk wA wr.heap.size 44 #[.int .u8 kk, .string a.name, .string a.other, .string a.data, .int .i64 a.n, .slice kx n kc] by rw [hwA]; exact Blk.alloc_new _ _ _)
        have HA := Lib.hid (HM.out.keep hbA)
        have HbA := Lib.hid hbA
        have HWA := Lib.hid hwA
        have g5 : wA.cell? ⟨b, off + i * 6 + 5, none⟩ = some (.slice kx n kc) := (hbA.cell (p := ⟨b, off + i * 6 + 5, none⟩) hb).trans k5
        have HK0 := Lib.hid (show ∀ W : World, Below w.heap.size w W → KeepR W (fun k => w.heap.size ≤ k) (.slice kx n kc) a.keep from fun W hb => by
          obtain ⟨_, _, hv0, hel0⟩ := H.out.chg (Chg.of_below hb (S := fun _ => False)) (fun _ e => e.elim)
          have ho0 := (hel0 i hlt).1.kv
          rw [← ha, hkv, ← Hn.out] at ho0
          exact ho0)
        have HL0 := Lib.hid (show ∀ W : World, Below w.heap.size w W → (W.cell? ⟨b, off + i * 6, none⟩ = some (.int .u8 kk) ∧ W.cell? ⟨b, off + i * 6 + 1, none⟩ = some (.string a.name) ∧ W.cell? ⟨b, off + i * 6 + 2, none⟩ = some (.string a.other) ∧ W.cell? ⟨b, off + i * 6 + 3, none⟩ = some (.string a.data) ∧ W.cell? ⟨b, off + i * 6 + 4, none⟩ = some (.int .i64 a.n) ∧ W.cell? ⟨b, off + i * 6 + 5, none⟩ = some (.slice kx n kc)) from fun W hb => by
          have hx := fun (j : Nat) => (hb.cell (p := ⟨b, j, none⟩) hb0).trans (HM.out.below.cell (p := ⟨b, j, none⟩) hb0).symm
          exact ⟨(hx _).trans k0, (hx _).trans k1, (hx _).trans k2, (hx _).trans k3, (hx _).trans k4, (hx _).trans k5⟩)
        have HDL := Lib.hid hdl
        clear ho hel hcl ha e2 hkv hkk hn hbA hwA
        go_wp2_with fail
        rw [← HWA.out]
        have HK := Lib.hid (fun (W : World) (hb : Below wr.heap.size wr W) => show KeepR W (fun k => w.heap.size ≤ k) (.slice kx n kc) a.keep from by
          have h1 := Ho.out.kv
          rw [Hkv.out, ← Hn.out] at h1
          exact h1.chg (Chg.of_below hb (S := fun _ => False)) (fun _ e => e.elim))
        have cur : Below wA.heap.size wA wA.drew := (Below.refl _ _).drew
        have hbx : wr.heap.size ≠ b := by omega
        have hbw : b < wA.heap.size := Nat.lt_of_lt_of_le hb HbA.out.size
        go_region_held3 (fun w' => w'.cell? ⟨b, off + i * 6 + 5, none⟩ = some (.slice kx n kc))
          (first | go_keep | ((refine (cur.cell (p := ⟨b, off + i * 6 + 5, none⟩) hbw).trans ?_; go_keep)) | ((refine (World.cell?_setCell_far _ _ _ _ hbx).trans ((cur.cell (p := ⟨b, off + i * 6 + 5, none⟩) hbw).trans ?_); go_keep)))
          (first
            | (refine upon_make (by omega) ?_; intro wM hoM hbM; first | (have cur := cur.trans (hbM.mono cur.size); have hoM := hoM.base (show wA.heap.size ≤ wA.drew.heap.size from Nat.le_refl _)) | (have hG := (hbM.cell (p := ⟨wA.drew.heap.size, 0, none⟩) (by simp)).trans (new_cell wA.drew (-70)); have cur := (cur.alloc cur.size _).trans (hbM.mono (Nat.le_trans cur.size (by simp))); have hoM := hoM.base (show wA.heap.size ≤ _ from by simp); rw [show (wA.alloc (.cells #[.int .i64 (-70)] 3 (0, 0))).drew.heap.size = wA.heap.size + 1 from by simp] at hoM))
            | (refine step_app_ints rfl (.tmp 56) (.tmp 61) rfl wA.heap.size _ [] (by rfl) hoM (.slice kx n kc) (by rfl) a.keep (HK.out _ (HbA.out.trans (cur.mono HbA.out.size))) (by have := Hn.out; simp; omega) cur.size ?_; intro wv wP hoP hcP; rw [List.nil_append] at hoP; have cur := app_cur cur hoM hcP; first | (have hG := app_cell rfl (by simp) hcP hG) | skip)
            | (refine step_app_ints rfl (.tmp 56) (.tmp 61) rfl wA.heap.size _ [] (by rfl) (hoM.alloc _) (.slice kx n kc) (by rfl) a.keep (HK.out _ ((HbA.out.trans (cur.mono HbA.out.size)).alloc (Nat.le_trans HbA.out.size cur.size) _)) (by have := Hn.out; simp; omega) (Nat.le_trans cur.size (by simp)) ?_; intro wv wP hoP hcP; rw [List.nil_append] at hoP; have cur := app_cur (cur.alloc cur.size _) (hoM.alloc _) hcP; have hG := app_cell rfl (fun e => by have := (World.ownsRow.lt hoM _ rfl).2; omega) hcP (new_cell wM (-70)))
            | (refine step_app_ints rfl (.tmp 62) (.tmp 63) rfl wA.heap.size wv a.keep (by rfl) hoP _ (by rfl) [-70] (keepR_one hG) (by have := Hn.out; simp; omega) cur.size ?_; intro wu wQ hoQ hcQ; have cur := app_cur cur hoP hcQ; obtain ⟨gk, cap2, hwu, hcap, hg1, hg2⟩ := hoQ.some_ (n := n + 1) (by rw [Hn.out]; simp) (by omega); subst hwu; have hcap2 : (n : Int) ≤ cap2 := Int.ofNat_le.2 (Nat.le_of_succ_le hcap); have q5 := (cur.cell (p := ⟨wr.heap.size, 5, none⟩) BA.out.lt).trans (BA.out.cell 5); replace q5 := q5.trans (show _ = some (Value.slice kx n kc) from rfl); have f5 := (cur.frozen (p := ⟨wr.heap.size, 5, none⟩) BA.out.lt).trans (BA.out.free 5))
            | (refine step_app_ints rfl (.tmp 62) (.tmp 63) rfl wA.heap.size wv a.keep (by rfl) (hoP.alloc _) _ (by rfl) [-70] (keepR_one (new_cell wP (-70))) (by have := Hn.out; simp; omega) (Nat.le_trans cur.size (by simp)) ?_; intro wu wQ hoQ hcQ; have cur := app_cur (cur.alloc cur.size _) (hoP.alloc _) hcQ; obtain ⟨gk, cap2, hwu, hcap, hg1, hg2⟩ := hoQ.some_ (n := n + 1) (by rw [Hn.out]; simp) (by omega); subst hwu; have hcap2 : (n : Int) ≤ cap2 := Int.ofNat_le.2 (Nat.le_of_succ_le hcap); have q5 := (cur.cell (p := ⟨wr.heap.size, 5, none⟩) BA.out.lt).trans (BA.out.cell 5); replace q5 := q5.trans (show _ = some (Value.slice kx n kc) from rfl); have f5 := (cur.frozen (p := ⟨wr.heap.size, 5, none⟩) BA.out.lt).trans (BA.out.free 5)))
        all_goals
          have Hcur := Lib.hid cur
          have Hcw := Lib.hid (HbA.out.trans (cur.mono HbA.out.size))
          have HoQ := Lib.hid hoQ
          have Hgk := Lib.hid (show wA.heap.size ≤ gk ∧ gk < wQ.heap.size from ⟨hg1, hg2⟩)
          have hzA : wA.heap.size = wr.heap.size + 1 := by rw [HWA.out]; simp
          have HzA := Lib.hid hzA
          obtain ⟨W4, hW4⟩ : ∃ W4, W4 = wQ.setCell ⟨wr.heap.size, 5, none⟩ (.slice (some ⟨gk, 0, none⟩) n cap2) := ⟨_, rfl⟩
          rw [← hW4]
          have hc4 : Chg (· = wr.heap.size) wQ W4 := by rw [hW4]; exact put_wr wQ wr.heap.size 5 _
          have B4 := Lib.hid (show Blk W4 wr.heap.size 44 #[.int .u8 kk, .string a.name, .string a.other, .string a.data, .int .i64 a.n, .slice (some ⟨gk, 0, none⟩) n cap2] from by rw [hW4]; exact (BA.out.below cur).set 5 _)
          have O4 := Lib.hid (show OwnI W4 wA.heap.size (.slice (some ⟨gk, 0, none⟩) (n + 1) cap2) (a.keep ++ [-70]) from hoQ.chg hc4 (fun k e x => by
            have e : gk = k := by simpa [Value.ownBlock] using e
            have x : k = wr.heap.size := x
            omega))
          obtain ⟨X, hX⟩ : ∃ X, X = Also (fun _ => False) wr wQ := ⟨_, rfl⟩
          have hx1 : X wr.heap.size := by rw [hX]; exact .inr ⟨Nat.le_refl _, by have := Hgk.out; omega⟩
          have hx2 : X gk := by rw [hX]; exact .inr ⟨by have := Hgk.out; omega, Hgk.out.2⟩
          have M4 := Lib.hid (show Mate w X W4 (.pointer (some ⟨ba, 0, none⟩)) (.pointer (some ⟨br, 0, none⟩)) d d from by rw [hX]; exact (HM.out.add Hcw.out).poke hc4 (fun k e => by rw [e]; rw [hX] at hx1; exact ⟨hx1, HM.out.size⟩))
          have Hx1 := Lib.hid hx1
          have Hx2 := Lib.hid hx2
          have h4z := hc4.size
          have Hgk4 := Lib.hid (show gk < W4.heap.size by have := Hgk.out; omega)
          have K4 := Lib.hid (keepR_front (S := fun k => ¬ X k ∧ w.heap.size ≤ k) O4.out Hn.out.symm Hgk4.out (fun e => e.1 Hx2.out))
          have Hb4 := Lib.hid (Hcw.out.trans (hc4.below (Hcw.out.size) (fun k hk e => by omega)))
          clear cur hoQ hg1 hg2 hzA hW4 hc4 hX hx1 hx2 h4z q5 f5 g5
          have hS4 : Below w.heap.size w W4 := M4.out.below
          obtain ⟨x0, x1, x2, x3, x4, x5⟩ := blk6' B4.out
          obtain ⟨l0, l1, l2, l3, l4, l5⟩ := HL0.out W4 hS4
          have hkn : a.keep.length ≤ 1099511627776 := by have := Hn.out; omega
          obtain ⟨r1, hr1⟩ : ∃ r, r = (stepA d a).1 := ⟨_, rfl⟩
          obtain ⟨d1, hd1⟩ : ∃ x, x = (stepA d a).2 := ⟨_, rfl⟩
          have HD := Lib.hid (fun (W : World) (hM : Mate w X W (.pointer (some ⟨ba, 0, none⟩)) (.pointer (some ⟨br, 0, none⟩)) d d) (hK : KeepR W (fun k => ¬ X k ∧ w.heap.size ≤ k) (.slice (some ⟨gk, 0, none⟩) n cap2) a.keep) => hM.doneV a Ho.out kk Hkk.out _ hK hkn)
          rw [← hr1, ← hd1] at HD
          have HS := Lib.hid (fun (W : World) (hM : Mate w X W (.pointer (some ⟨ba, 0, none⟩)) (.pointer (some ⟨br, 0, none⟩)) d1 d) => hM.saidV a Ho.out kk Hkk.out (.slice kx n kc) ((HK0.out W hM.below).mono fun _ e => e.2) hkn HDL.out)
          rw [← hr1, ← hd1] at HS
          have HQ := Lib.hid (show ∀ W : World, Below w.heap.size w W → Blk W wr.heap.size 44 #[.int .u8 kk, .string a.name, .string a.other, .string a.data, .int .i64 a.n, .slice (some ⟨gk, 0, none⟩) n cap2] →
            ((W.cell? ⟨wr.heap.size, 0, none⟩ = some (.int .u8 kk) ∧ W.cell? ⟨wr.heap.size, 1, none⟩ = some (.string a.name) ∧ W.cell? ⟨wr.heap.size, 2, none⟩ = some (.string a.other) ∧ W.cell? ⟨wr.heap.size, 3, none⟩ = some (.string a.data) ∧ W.cell? ⟨wr.heap.size, 4, none⟩ = some (.int .i64 a.n) ∧ W.cell? ⟨wr.heap.size, 5, none⟩ = some (.slice (some ⟨gk, 0, none⟩) n cap2)) ∧
             (W.cell? ⟨b, off + i * 6, none⟩ = some (.int .u8 kk) ∧ W.cell? ⟨b, off + i * 6 + 1, none⟩ = some (.string a.name) ∧ W.cell? ⟨b, off + i * 6 + 2, none⟩ = some (.string a.other) ∧ W.cell? ⟨b, off + i * 6 + 3, none⟩ = some (.string a.data) ∧ W.cell? ⟨b, off + i * 6 + 4, none⟩ = some (.int .i64 a.n) ∧ W.cell? ⟨b, off + i * 6 + 5, none⟩ = some (.slice kx n kc))) from fun W h1 h2 => ⟨blk6' h2, HL0.out W h1⟩)
          have HM5 := Lib.hid (M4.out.keep ((Below.refl W4.heap.size W4).drew))
          have B5 := Lib.hid (B4.out.below (Below.refl W4.heap.size W4).drew)
          have O5 := Lib.hid (O4.out.kept (Below.refl W4.heap.size W4).drew)
          have HK5 := Lib.hid (K4.out.chg (T := fun _ => False) (Chg.of_below ((Below.refl W4.heap.size W4).drew)) (fun _ e => e.elim))
          clear hS4 hr1 hd1 hkn
          go_wp2_with fail
          go_region_held3 (fun W => (W.cell? ⟨wr.heap.size, 0, none⟩ = some (.int .u8 kk) ∧ W.cell? ⟨wr.heap.size, 1, none⟩ = some (.string a.name) ∧ W.cell? ⟨wr.heap.size, 2, none⟩ = some (.string a.other) ∧ W.cell? ⟨wr.heap.size, 3, none⟩ = some (.string a.data) ∧ W.cell? ⟨wr.heap.size, 4, none⟩ = some (.int .i64 a.n) ∧ W.cell? ⟨wr.heap.size, 5, none⟩ = some (.slice (some ⟨gk, 0, none⟩) n cap2)) ∧
             (W.cell? ⟨b, off + i * 6, none⟩ = some (.int .u8 kk) ∧ W.cell? ⟨b, off + i * 6 + 1, none⟩ = some (.string a.name) ∧ W.cell? ⟨b, off + i * 6 + 2, none⟩ = some (.string a.other) ∧ W.cell? ⟨b, off + i * 6 + 3, none⟩ = some (.string a.data) ∧ W.cell? ⟨b, off + i * 6 + 4, none⟩ = some (.int .i64 a.n) ∧ W.cell? ⟨b, off + i * 6 + 5, none⟩ = some (.slice kx n kc)))
            (first | go_keep | exact hq2 | exact hq1)
            (first
              | ((go_at_call 21; (refine (HD.out _ HM5.out HK5.out).mono ?_; rintro e wD ⟨rfl, hmD, hkD⟩; have BD := Lib.hid (B5.out.chg hkD (fun e => e Hx1.out)); have OD := Lib.hid (O5.out.keptX hkD Hx2.out); have HMD := Lib.hid hmD; have hq1 := HQ.out wD hmD.below BD.out)))
              | ((go_at_call 25; refine (HS.out _ HMD.out).mono ?_; rintro e wS ⟨rfl, hmS, hkS⟩; have BS := Lib.hid (BD.out.chg hkS (fun e => e Hx1.out)); have OS := Lib.hid (OD.out.keptX hkS Hx2.out); have HMS := Lib.hid hmS; have hq2 := HQ.out wS hmS.below BS.out)))
          all_goals
            obtain ⟨y0, y1, y2, y3, y4, y5⟩ := blk6' BS.out
            obtain ⟨z0, z1, z2, z3, z4, z5⟩ := HL0.out wS hmS.below
            have g70 : wS.cell? ⟨gk, n, none⟩ = some (.int .i64 (-70)) := by
              have h1 := OS.out.at_ n (by simp; have := Hn.out; omega)
              rw [h1]
              have := Hn.out
              simp [this]
            have hcap3 : (n : Int) + 1 ≤ cap2 := by omega
            have hrr : (r1 == r1) = true := by simp
            have hsz : a.name.size ≤ maxLen := Ho.out.name
            have hkm : a.keep.length ≤ 9223372036854775807 := by have := Hn.out; omega
            obtain ⟨sy, hsy⟩ : ∃ s, s = d1.synced a.name.data.toList := ⟨_, rfl⟩
            have Hy1 := Lib.hid (fun (Y : Ext wS) => Calls.ext_same (x := Y) ((HMS.out.keep Y.le).first.synced a.name hsz))
            have Hy2 := Lib.hid (fun (Y : Ext wS) => Calls.ext_same (x := Y) ((HMS.out.keep Y.le).second.synced a.name))
            rw [← hsy] at Hy1 Hy2
            have HI := Lib.hid (fun (Y : Ext wS) => Calls.ext_of (x := Y) (sameInts_kept (keepR_front (S := fun k => ¬ k < wS.heap.size) (OS.out.kept Y.le) Hn.out.symm (Nat.lt_of_lt_of_le (World.ownsRow.lt OS.out gk rfl).2 Y.le.size) (fun e => e (World.ownsRow.lt OS.out gk rfl).2)) (HK0.out Y.wd (HMS.out.keep Y.le).below) hkm))
            have Hsm := Lib.hid (fun (Y : Ext wS) => Calls.ext_of (x := Y) (same_any (HMS.out.keep Y.le)))
            have hss : (sy == sy) = true := by simp
            clear hsy hkm hsz hmS hkS hmD hkD hq1 hq2
            go_wp2_with fail
            refine wp_region_ext (by kernel_rfl) (by kernel_rfl) fun K hK => ?_
            repeat (go_big_quiet_step ((first | (go_at_call 26; exact HI.out _) | (go_at_call 27; exact Hy1.out _) | (go_at_call 28; exact Hy2.out _) | (go_at_call 29; exact Hsm.out _))))
            refine wpQuiet_nil (hK _ fun Y => ?_)
            clear hK K
            obtain ⟨wY, hwY⟩ : ∃ W, W = Y.wd := ⟨_, rfl⟩
            have hYl := Y.le
            have HMY := Lib.hid (HMS.out.keep Y.le)
            have BY := Lib.hid (BS.out.below Y.le)
            have OY := Lib.hid (OS.out.kept Y.le)
            rw [← hwY] at HMY BY OY ⊢
            clear hwY y0 y1 y2 y3 y4 y5 z0 z1 z2 z3 z4 z5 g70 hYl
            go_wp2_with fail
            go_loopw [13] (fun v13 W => ∃ k : Nat, v13 = .int .i64 k ∧ k ≤ n ∧ Mate w X W (.pointer (some ⟨ba, 0, none⟩)) (.pointer (some ⟨br, 0, none⟩)) d1 d1 ∧ Blk W wr.heap.size 44 #[.int .u8 kk, .string a.name, .string a.other, .string a.data, .int .i64 a.n, .slice (some ⟨gk, 0, none⟩) n cap2] ∧ ∃ L : List Int, L.length = n + 1 ∧ OwnI W wA.heap.size (.slice (some ⟨gk, 0, none⟩) (n + 1) cap2) L) (fun v13 _ => n - (intOf v13).toNat)
            case atStart => exact ⟨0, rfl, Nat.zero_le _, HMY.out, BY.out, _, by simp; exact Hn.out.symm, OY.out⟩
            case round =>
              obtain ⟨k, rfl, hk, hm2, hB2, L, hL, hO⟩ := hrel
              have HM2 := Lib.hid hm2
              have B2 := Lib.hid hB2
              have O2 := Lib.hid hO
              have HL := Lib.hid hL
              have q5 := (blk6' hB2).2.2.2.2.2
              clear hm2 hB2 hO hL
              by_cases hlt2 : k < n
              · have f1 := O2.out.free k
                have c1 := O2.out.at_ k (by have := HL.out; omega)
                go_wp2_with fail
                go_roundw
                case rel => exact ⟨k + 1, by go_num, by omega, HM2.out.poke (put_wr _ gk k (.int .i64 5)) (fun j e => by rw [e]; exact ⟨Hx2.out, by have := Hgk.out; have := HM.out.size; have := HzA.out; omega⟩), B2.out.chg (put_wr _ gk k (.int .i64 5)) (by have := Hgk.out; have := HzA.out; omega), _, by rw [List.length_set]; exact HL.out, O2.out.poke k 5⟩
                case measure => simp [intOf]; omega
              · obtain rfl : k = n := by omega
                go_wp2_with fail
                go_roundw
                case rel => exact ⟨i + 1, d1, by go_num, by omega, HM2.out.drop (fun _ e => e.elim)⟩
                case measure => simp [intOf]; omega
      · obtain rfl : i = l.length := by omega
        go_wp2_with fail
        refine (does_any wr).mono ?_
        rintro e w3 ⟨rfl, hb⟩
        have Hb := Lib.hid hb
        clear hb
        go_wp2_with fail
        go_ret
        exact ⟨rfl, HM.out.below.trans (Hb.out.mono HM.out.size)⟩
theorem walkDiskPlays (cap : Int) (x : Value × List ActS) (w : World) (h0 : -9223372036854775808 ≤ cap ∧ cap ≤ 9223372036854775807) (h1 : RdA w w.heap.size x.1 x.2 ∧ x.2.length ≤ maxLen) :
    Calls Try.prog 6 #[.int .i64 cap, x.1] w fun e w' => e = .returned (.bool true) ∧ Below w.heap.size w w' :=
  diskPlays_any cap h0 x.1 x.2 w h1.1 h1.2
end Go.Proofs.Ytnngdflamkdgaaa

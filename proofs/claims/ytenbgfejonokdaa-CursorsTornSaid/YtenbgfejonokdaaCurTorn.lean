/- 'CursorsTorn', walked. -/
import Derived.Test.YtenbgfejonokdaaCurBack
import Derived.Test.YtenbgfejonokdaaCActs
namespace Go.Proofs.Ytenbgfejonokdaa
set_option maxRecDepth 100000
open Go.RowKit Go.Maps
open Dsk

theorem Live.poke {w0 w : World} {X : Nat → Prop} {v : Value} {d : Dk} (h : Live w0 X w v d) {b : Nat} (i : Nat) (u : Value) (hb : X b) (hw : w0.heap.size ≤ b) : Live w0 X (w.setCell ⟨b, i, none⟩ u) v d := by
  obtain ⟨F, h1, h2, h3, h4⟩ := h
  have hz : (w.setCell ⟨b, i, none⟩ u).heap.size = w.heap.size := by simp [World.setCell]
  exact ⟨F, h1.chg (put_wr w b i u) (fun k hk e => (h2 k hk).2 (e ▸ hb)), h2, fun k hk => by rw [hz]; exact h3 k hk, h4.setCell (p := ⟨b, i, none⟩) hw u⟩
/-- A list that was there ahead of all lies in no block that is kept. -/
theorem KeepR.old {w0 w : World} {X : Nat → Prop} {v0 v : Value} {d : Dk} {l : List Int} (h : KeepR w (fun k => w0.heap.size ≤ k) v0 l) (_ : Live w0 X w v d) : KeepR w (fun k => ¬ X k ∧ w0.heap.size ≤ k) v0 l := h.mono fun _ e => e.2
set_option maxHeartbeats 8000000 in
theorem cursorsTorn_any (v : Value) (l : List ActC) (w : World) (h : RdK w w.heap.size v l) (hm : l.length ≤ maxLen) :
    Calls Try.prog 6 #[v] w fun e w' => e = .returned (.bool true) ∧ Below w.heap.size w w' := by
  have hm2 : l.length ≤ 9223372036854775807 := by unfold maxLen at hm; omega
  have hg := greatC_any v l w.heap.size w h hm2
  obtain ⟨x, c, hv, hj⟩ := id h
  subst hv
  clear hj
  have Hg := Lib.hid hg
  have H := Lib.hid h
  clear h hm hg
  go_enter Try.func6, Try.ntmps6
  go_wp2_with fail
  refine Hg.out.mono ?_
  rintro e w0 ⟨b, rfl, hsm, rfl⟩
  cases b with
  | true =>
    clear hsm
    go_wp2_with fail
    go_ret
    exact ⟨rfl, Below.refl _ _⟩
  | false =>
    have Hs := Lib.hid (hsm rfl)
    have hl100 : l.length ≤ 100 := Hs.out.1
    clear hsm Hg
    go_wp2_with fail
    refine (live_new 1000 w (by omega) (by omega)).mono ?_
    rintro e w1 ⟨u, rfl, hl⟩
    obtain ⟨bd, rfl⟩ := hl.ptr
    rw [tn_new] at hl
    have HL := Lib.hid hl
    clear hl
    obtain ⟨w2, hw2⟩ : ∃ w2, w2 = w1.alloc (.cells #[.int .i64 0, .int .i64 0] 23 (0, 0)) := ⟨_, rfl⟩
    have hb12 : Below w1.heap.size w1 w2 := by rw [hw2]; exact (Below.refl _ _).alloc (Nat.le_refl _) _
    have B2 := Lib.hid (show Blk w2 w1.heap.size 23 #[.int .i64 0, .int .i64 0] by rw [hw2]; exact Blk.alloc_new _ _ _)
    have H2 := Lib.hid ((HL.out.add hb12).drop (Y := fun k => k = w1.heap.size) (fun k e => .inr ⟨by omega, by rw [e]; exact B2.out.lt⟩))
    have Hbl0 := Lib.hid (show w.heap.size ≤ w1.heap.size from HL.out.size)
    have HW2 := Lib.hid hw2
    obtain ⟨bl, hbl⟩ : ∃ bl, bl = w1.heap.size := ⟨_, rfl⟩
    rw [← hbl] at B2 H2 Hbl0
    have HBL := Lib.hid hbl
    clear hb12 hw2 hbl
    go_wp2_with fail
    rw [← HW2.out, ← HBL.out]
    go_loopw [2, 6, 7, 8, 9, 10, 11, 12] (fun _ v6 _ _ _ _ _ _ wr => ∃ (i : Nat) (s : Int) (C : Option Str) (D : Option Fl) (fl : Option Int) (kp : List Int) (l1 l2 : Int), v6 = .int .i64 i ∧ i ≤ l.length ∧ CL C (l1, l2) ∧ Blk wr bl 23 #[.int .i64 l1, .int .i64 l2] ∧ Live w (fun k => k = bl) wr (.pointer (some ⟨bd, 0, none⟩)) (tn 1000 s false C D fl kp)) (fun _ v6 _ _ _ _ _ _ _ => l.length - (intOf v6).toNat)
    case atStart => exact ⟨0, 0, none, none, none, [], 0, 0, rfl, Nat.zero_le _, rfl, B2.out, H2.out⟩
    case round =>
      obtain ⟨i, s, C, D, fl, kp, l1, l2, rfl, hi, hcl, hbl, hlv⟩ := hrel
      have HCL := Lib.hid hcl
      have Bl := Lib.hid hbl
      have HV := Lib.hid hlv
      have f0 := hbl.free 0
      have f1 := hbl.free 1
      clear hcl hbl hlv f0 f1
      by_cases hlt : i < l.length
      · obtain ⟨x', c', hv, hel⟩ := H.out.chg (Chg.of_below HV.out.below (S := fun _ => False)) (fun _ e => e.elim)
        injection hv with e1 e2 e3
        subst e1 e3
        obtain ⟨ho, b, off, rfl, hbl0, hbl, hc⟩ := hel i hlt
        obtain ⟨k0, k1, k2, k3, k4, k5, k6⟩ := actC_load (b := b) (off := off + i * 7) (a := l[i]) (fun j hj => by rw [Nat.add_assoc]; exact hc j hj)
        obtain ⟨x, hx⟩ : ∃ x, x = l[i] := ⟨_, rfl⟩
        have hkl : x.keep.length ≤ 100 := by rw [hx]; exact (Hs.out.2 i hlt).1
        rw [← hx] at k0 k1 k2 k3 k4 k5 k6 ho
        have Ho := Lib.hid (show ∀ W : World, Below w.heap.size w W → KeepR W (fun k => w.heap.size ≤ k) x.kv x.keep from fun W hb => by
          obtain ⟨_, _, hv0, hel0⟩ := H.out.chg (Chg.of_below hb (S := fun _ => False)) (fun _ e => e.elim)
          have ho0 := (hel0 i hlt).1
          rw [← hx] at ho0
          exact ho0.kv)
        have Hoc := Lib.hid ho.c
        have hn1 := ho.n
        have hk256 := ho.kind
        have hii : (i : Int) < l.length := by omega
        obtain ⟨kx, kc, hkv⟩ := ho.kv.form'
        rw [hkv] at k4 Ho
        obtain ⟨xk, ⟨xa, xb⟩, xn, xv, xkeep, xname, xdata⟩ := x
        simp only at *
        obtain ⟨m, hm⟩ : ∃ m : Nat, (xk : Int) % 11 = m := ⟨xk % 11, by omega⟩
        have hm11 : m < 11 := by omega
        obtain ⟨wA, hwA⟩ : ∃ wA, wA = wr.alloc (.cells #[.int .u8 xk, .int .i64 xa, .int .i64 xb, .int .i64 xn, .slice kx xkeep.length kc, .string xname, .string xdata] 52 (0, 0)) := ⟨_, rfl⟩
        have hbA : Below wr.heap.size wr wA := by rw [hwA]; exact (Below.refl _ _).alloc (Nat.le_refl _) _
        have BA := Lib.hid (show Blk wA wr.heap.size 52 #[.int .u8 xk, .int .i64 xa, .int .i64 xb, .int .i64 xn, .slice kx xkeep.length kc, .string xname, .string xdata] by rw [hwA]; exact Blk.alloc_new _ _ _)
        have HA := Lib.hid (HV.out.add hbA)
        have BlA := Lib.hid (Bl.out.below hbA)
        have Hxl := Lib.hid (show Also (fun k => k = bl) wr wA bl from .inl rfl)
        have Hxx := Lib.hid (show Also (fun k => k = bl) wr wA wr.heap.size from .inr ⟨Nat.le_refl _, BA.out.lt⟩)
        have HWA := Lib.hid hwA
        clear hc hel ho hx e2 hkv hbA hwA
        by_cases hm7 : m = 7
        · subst hm7
          obtain ⟨e1, fl', kp', hfa⟩ := tn_fail 1000 s C D fl kp xkeep xn
          have hfl := HA.out.fail xn hn1.2 _ xkeep (Ho.out wA HA.out.below) (by omega)
          rw [hfa] at hfl
          have Hfl := Lib.hid hfl
          clear hfl hfa
          go_wp2_with fail
          rw [← HWA.out]
          refine Hfl.out.mono ?_
          rintro e wB ⟨rfl, hlB, hkB⟩
          have HB := Lib.hid hlB
          have BlB := Lib.hid (BlA.out.chg hkB (fun e => e Hxl.out))
          clear hlB hkB
          obtain ⟨wT, hwT⟩ : ∃ wT, wT = wB.alloc (.cells #[.int .i64 l1, .int .i64 l2] 23 (0, 0)) := ⟨_, rfl⟩
          have hbT : Below wB.heap.size wB wT := by rw [hwT]; exact (Below.refl _ _).alloc (Nat.le_refl _) _
          have HT := Lib.hid (HB.out.keep hbT)
          have BlT := Lib.hid (BlB.out.below hbT)
          obtain ⟨s0, s1⟩ := blkc BlB.out
          have HWT := Lib.hid hwT
          clear hbT hwT
          go_wp2_with fail
          rw [← HWT.out]
          clear s0 s1
          have hld := HT.out.loadQ (tn_load 1000 s C D fl' kp' (l1, l2) HCL.out)
          refine hld.mono ?_
          rintro e wL ⟨rfl, hbL⟩
          have HTL := Lib.hid (HT.out.keep hbL)
          have BlL := Lib.hid (BlT.out.below hbL)
          obtain ⟨wC, hwC⟩ : ∃ wC, wC = wL.alloc (.cells #[.int .i64 l1, .int .i64 l2] 23 (0, 0)) := ⟨_, rfl⟩
          have hbC : Below wL.heap.size wL wC := by rw [hwC]; exact (Below.refl _ _).alloc (Nat.le_refl _) _
          have BC := Lib.hid (show Blk wC wL.heap.size 23 #[.int .i64 l1, .int .i64 l2] by rw [hwC]; exact Blk.alloc_new _ _ _)
          have HTC := Lib.hid (HTL.out.keep hbC)
          have BlC := Lib.hid (BlL.out.below hbC)
          obtain ⟨r0, r1⟩ := blkc BlC.out
          obtain ⟨r2, r3⟩ := blkc BC.out
          have r4 := BlC.out.free 0
          have r5 := BlC.out.free 1
          rw [hwC] at r0 r1 r2 r3 r4 r5
          have HWC := Lib.hid hwC
          have Hend := Lib.hid (And.intro (((HTC.out.drop (fun k hk => .inl hk)).poke 0 (.int .i64 l1) rfl Hbl0.out).poke 1 (.int .i64 l2) rfl Hbl0.out) (cur_two BlC.out (.int .i64 l1) (.int .i64 l2)))
          clear hld hbL hbC hwC
          go_wp2_with fail
          rw [← HWC.out]
          go_roundw
          case rel => exact ⟨i + 1, s, C, D, fl', kp', l1, l2, by go_num, by omega, HCL.out, Hend.out.2, Hend.out.1⟩
          case measure => simp [intOf]; omega
        by_cases hm8 : m = 8
        · subst hm8
          obtain ⟨D1, hcr⟩ := tn_crash 1000 s C D fl kp xkeep
          have Hcr := Lib.hid hcr
          have hka := (Ho.out wA HA.out.below)
          have Hka := Lib.hid hka
          clear hcr hka
          go_wp2_with fail
          rw [← HWA.out]
          refine (HA.out.crashQ _ xkeep (Hka.out.old HA.out) (by omega) Hcr.out).mono ?_
          rintro e wB1 ⟨rfl, hlB, hkB⟩
          have HB1 := Lib.hid hlB
          have BlB1 := Lib.hid (BlA.out.chg hkB (fun e => e Hxl.out))
          clear hlB hkB
          go_wp2_with fail
          refine (HB1.out.startQ (tn_start _ _ _ _ _ _)).mono ?_
          rintro e wB ⟨rfl, hlB, hkB⟩
          have HB := Lib.hid hlB
          have BlB := Lib.hid (BlB1.out.chg hkB (fun e => e Hxl.out))
          clear hlB hkB
          obtain ⟨wT, hwT⟩ : ∃ wT, wT = wB.alloc (.cells #[.int .i64 l1, .int .i64 l2] 23 (0, 0)) := ⟨_, rfl⟩
          have hbT : Below wB.heap.size wB wT := by rw [hwT]; exact (Below.refl _ _).alloc (Nat.le_refl _) _
          have HT := Lib.hid (HB.out.keep hbT)
          have BlT := Lib.hid (BlB.out.below hbT)
          obtain ⟨s0, s1⟩ := blkc BlB.out
          have HWT := Lib.hid hwT
          clear hbT hwT
          go_wp2_with fail
          rw [← HWT.out]
          clear s0 s1
          have hld := HT.out.loadQ (tn_load 1000 (IntKind.i64.wrap (s + 1)) C D1 none kp (l1, l2) HCL.out)
          refine hld.mono ?_
          rintro e wL ⟨rfl, hbL⟩
          have HTL := Lib.hid (HT.out.keep hbL)
          have BlL := Lib.hid (BlT.out.below hbL)
          obtain ⟨wC, hwC⟩ : ∃ wC, wC = wL.alloc (.cells #[.int .i64 l1, .int .i64 l2] 23 (0, 0)) := ⟨_, rfl⟩
          have hbC : Below wL.heap.size wL wC := by rw [hwC]; exact (Below.refl _ _).alloc (Nat.le_refl _) _
          have BC := Lib.hid (show Blk wC wL.heap.size 23 #[.int .i64 l1, .int .i64 l2] by rw [hwC]; exact Blk.alloc_new _ _ _)
          have HTC := Lib.hid (HTL.out.keep hbC)
          have BlC := Lib.hid (BlL.out.below hbC)
          obtain ⟨r0, r1⟩ := blkc BlC.out
          obtain ⟨r2, r3⟩ := blkc BC.out
          have r4 := BlC.out.free 0
          have r5 := BlC.out.free 1
          rw [hwC] at r0 r1 r2 r3 r4 r5
          have HWC := Lib.hid hwC
          have Hend := Lib.hid (And.intro (((HTC.out.drop (fun k hk => .inl hk)).poke 0 (.int .i64 l1) rfl Hbl0.out).poke 1 (.int .i64 l2) rfl Hbl0.out) (cur_two BlC.out (.int .i64 l1) (.int .i64 l2)))
          clear hld hbL hbC hwC
          go_wp2_with fail
          rw [← HWC.out]
          go_roundw
          case rel => exact ⟨i + 1, (IntKind.i64.wrap (s + 1)), C, D1, none, kp, l1, l2, by go_num, by omega, HCL.out, Hend.out.2, Hend.out.1⟩
          case measure => simp [intOf]; omega
        have t7 : ((m : Int) == 7) = false := by rw [beq_eq_false_iff_ne]; omega
        have t8 : ((m : Int) == 8) = false := by rw [beq_eq_false_iff_ne]; omega
        have t7' : (m == 7) = false := by rw [beq_eq_false_iff_ne]; exact hm7
        have t8' : (m == 8) = false := by rw [beq_eq_false_iff_ne]; exact hm8
        by_cases hm5 : m < 5
        case neg =>
          have t5 : decide ((m : Int) < 5) = false := decide_eq_false (by omega)
          have t5' : decide (m < 5) = false := decide_eq_false hm5
          clear hm5 hm7 hm8
          obtain ⟨wT, hwT⟩ : ∃ wT, wT = wA.alloc (.cells #[.int .i64 l1, .int .i64 l2] 23 (0, 0)) := ⟨_, rfl⟩
          have hbT : Below wA.heap.size wA wT := by rw [hwT]; exact (Below.refl _ _).alloc (Nat.le_refl _) _
          have HT := Lib.hid (HA.out.keep hbT)
          have BlT := Lib.hid (BlA.out.below hbT)
          obtain ⟨s0, s1⟩ := blkc BlA.out
          rw [HWA.out] at s0 s1
          have HWT := Lib.hid hwT
          clear hbT hwT
          go_wp2_with fail
          rw [← HWA.out, ← HWT.out]
          clear s0 s1
          have hld := HT.out.loadQ (tn_load 1000 s C D fl kp (l1, l2) HCL.out)
          refine hld.mono ?_
          rintro e wL ⟨rfl, hbL⟩
          have HTL := Lib.hid (HT.out.keep hbL)
          have BlL := Lib.hid (BlT.out.below hbL)
          obtain ⟨wC, hwC⟩ : ∃ wC, wC = wL.alloc (.cells #[.int .i64 l1, .int .i64 l2] 23 (0, 0)) := ⟨_, rfl⟩
          have hbC : Below wL.heap.size wL wC := by rw [hwC]; exact (Below.refl _ _).alloc (Nat.le_refl _) _
          have BC := Lib.hid (show Blk wC wL.heap.size 23 #[.int .i64 l1, .int .i64 l2] by rw [hwC]; exact Blk.alloc_new _ _ _)
          have HTC := Lib.hid (HTL.out.keep hbC)
          have BlC := Lib.hid (BlL.out.below hbC)
          obtain ⟨r0, r1⟩ := blkc BlC.out
          obtain ⟨r2, r3⟩ := blkc BC.out
          have r4 := BlC.out.free 0
          have r5 := BlC.out.free 1
          rw [hwC] at r0 r1 r2 r3 r4 r5
          have HWC := Lib.hid hwC
          have Hend := Lib.hid (And.intro (((HTC.out.drop (fun k hk => .inl hk)).poke 0 (.int .i64 l1) rfl Hbl0.out).poke 1 (.int .i64 l2) rfl Hbl0.out) (cur_two BlC.out (.int .i64 l1) (.int .i64 l2)))
          clear hld hbL hbC hwC
          go_wp2_with fail
          rw [← HWC.out]
          go_roundw
          case rel => exact ⟨i + 1, s, C, D, fl, kp, l1, l2, by go_num, by omega, HCL.out, Hend.out.2, Hend.out.1⟩
          case measure => simp [intOf]; omega
        case pos =>
          have t5 : decide ((m : Int) < 5) = true := decide_eq_true (by omega)
          have t5' : decide (m < 5) = true := decide_eq_true hm5
          clear hm5 hm7 hm8
          obtain ⟨wM, hwM⟩ : ∃ wM, wM = wA.alloc (.cells #[.int .i64 l1, .int .i64 l2] 23 (0, 0)) := ⟨_, rfl⟩
          have hbM : Below wA.heap.size wA wM := by rw [hwM]; exact (Below.refl _ _).alloc (Nat.le_refl _) _
          have BM := Lib.hid (show Blk wM wA.heap.size 23 #[.int .i64 l1, .int .i64 l2] by rw [hwM]; exact Blk.alloc_new _ _ _)
          have HM := Lib.hid (HA.out.add hbM)
          have BlM := Lib.hid (BlA.out.below hbM)
          have BxM := Lib.hid (BA.out.below hbM)
          obtain ⟨s0, s1⟩ := blkc BlA.out
          rw [HWA.out] at s0 s1
          have Hyl := Lib.hid (show Also (Also (fun k => k = bl) wr wA) wA wM bl from .inl Hxl.out)
          have Hyx := Lib.hid (show Also (Also (fun k => k = bl) wr wA) wA wM wr.heap.size from .inl Hxx.out)
          have Hym := Lib.hid (show Also (Also (fun k => k = bl) wr wA) wA wM wA.heap.size from .inr ⟨Nat.le_refl _, BM.out.lt⟩)
          have y1 := BxM.out.cell 1
          have y2 := BxM.out.cell 2
          simp at y1 y2
          rw [hwM, HWA.out] at y1 y2
          have HWM := Lib.hid hwM
          have hzA : w.heap.size ≤ wA.heap.size := HA.out.size
          have HzA := Lib.hid hzA
          have HzE := Lib.hid (show wA.heap.size = wr.heap.size + 1 by rw [HWA.out]; simp)
          clear hbM hwM hzA
          by_cases hmay : Cur.May xa xb
          case neg =>
            have Hsv := Lib.hid (HM.out.saveQ xa xb Hoc.out (tn_save_not 1000 s C D fl kp xa xb hmay))
            clear hmay
            go_wp2_with fail
            rw [← HWA.out, ← HWM.out]
            refine Hsv.out.mono ?_
            rintro e wT ⟨rfl, hlT, hkT⟩
            have HT := Lib.hid hlT
            have BlT := Lib.hid (BlM.out.chg hkT (fun e => e Hyl.out))
            clear hlT hkT s0 s1 y1 y2
            go_wp2_with fail
            have hld := HT.out.loadQ (tn_load 1000 s C D fl kp (l1, l2) HCL.out)
            refine hld.mono ?_
            rintro e wL ⟨rfl, hbL⟩
            have HTL := Lib.hid (HT.out.keep hbL)
            have BlL := Lib.hid (BlT.out.below hbL)
            obtain ⟨wC, hwC⟩ : ∃ wC, wC = wL.alloc (.cells #[.int .i64 l1, .int .i64 l2] 23 (0, 0)) := ⟨_, rfl⟩
            have hbC : Below wL.heap.size wL wC := by rw [hwC]; exact (Below.refl _ _).alloc (Nat.le_refl _) _
            have BC := Lib.hid (show Blk wC wL.heap.size 23 #[.int .i64 l1, .int .i64 l2] by rw [hwC]; exact Blk.alloc_new _ _ _)
            have HTC := Lib.hid (HTL.out.keep hbC)
            have BlC := Lib.hid (BlL.out.below hbC)
            obtain ⟨r0, r1⟩ := blkc BlC.out
            obtain ⟨r2, r3⟩ := blkc BC.out
            have r4 := BlC.out.free 0
            have r5 := BlC.out.free 1
            rw [hwC] at r0 r1 r2 r3 r4 r5
            have HWC := Lib.hid hwC
            have Hend := Lib.hid (And.intro (((HTC.out.drop (fun k hk => .inl (.inl hk))).poke 0 (.int .i64 l1) rfl Hbl0.out).poke 1 (.int .i64 l2) rfl Hbl0.out) (cur_two BlC.out (.int .i64 l1) (.int .i64 l2)))
            clear hld hbL hbC hwC
            go_wp2_with fail
            rw [← HWC.out]
            go_roundw
            case rel => exact ⟨i + 1, s, C, D, fl, kp, l1, l2, by go_num, by omega, HCL.out, Hend.out.2, Hend.out.1⟩
            case measure => simp [intOf]; omega
          case pos =>
            have hclx : CL (some (Cur.enc xa xb).1) (xa, xb) := ⟨rfl, hmay⟩
            have HCLX := Lib.hid hclx
            rcases tn_save 1000 s C D fl kp xa xb (by omega) HCL.out.len hmay with ⟨fl', _, hsv⟩ | ⟨_, D2, hsv⟩
            · have Hsv := Lib.hid (HM.out.saveQ xa xb Hoc.out hsv)
              clear hmay hsv hclx
              go_wp2_with fail
              rw [← HWA.out, ← HWM.out]
              refine Hsv.out.mono ?_
              rintro e wS ⟨rfl, hlS, hkS⟩
              have HS := Lib.hid hlS
              have BlS := Lib.hid (BlM.out.chg hkS (fun e => e Hyl.out))
              have BxS := Lib.hid (BxM.out.chg hkS (fun e => e Hyx.out))
              have BmS := Lib.hid (BM.out.chg hkS (fun e => e Hym.out))
              clear hlS hkS s0 s1 y1 y2
              have hne : wA.heap.size ≠ bl := by have := HV.out.lt bl rfl; have h2 := BA.out.lt; omega
              have hnx : wr.heap.size ≠ bl := by have := HV.out.lt bl rfl; omega
              have y1 := BxS.out.cell 1
              have y2 := BxS.out.cell 2
              simp at y1 y2
              obtain ⟨s0, s1⟩ := blkc BlS.out
              obtain ⟨s2, s3⟩ := blkc BmS.out
              have z0 := BlS.out.free 0
              have z1 := BlS.out.free 1
              have z2 := BmS.out.free 0
              have z3 := BmS.out.free 1
              obtain ⟨wP, hwP⟩ : ∃ wP, wP = (wS.setCell ⟨bl, 0, none⟩ (.int .i64 xa)).setCell ⟨bl, 1, none⟩ (.int .i64 xb) := ⟨_, rfl⟩
              have BlP := Lib.hid (show Blk wP bl 23 #[.int .i64 xa, .int .i64 xb] by rw [hwP]; exact cur_two BlS.out _ _)
              have BmP := Lib.hid (show Blk wP wA.heap.size 23 #[.int .i64 l1, .int .i64 l2] by rw [hwP]; exact Blk.set_ne (Blk.set_ne BmS.out _ _ _ hne) _ _ _ hne)
              have HP := Lib.hid (show Live w (Also (Also (fun k => k = bl) wr wA) wA wM) wP _ _ by rw [hwP]; exact (HS.out.poke 0 (.int .i64 xa) Hyl.out Hbl0.out).poke 1 (.int .i64 xb) Hyl.out Hbl0.out)
              have HWP := Lib.hid hwP
              obtain ⟨q0, q1⟩ := blkc BlP.out
              have q2 := BmP.out.free 0
              have q3 := BmP.out.free 1
              obtain ⟨q4, q5⟩ := blkc BmP.out
              rw [HzE.out] at q2 q3 q4 q5 s2 s3 z2 z3
              rw [hwP] at q0 q1 q2 q3 q4 q5
              obtain ⟨wT, hwT⟩ : ∃ wT, wT = (wP.setCell ⟨wr.heap.size + 1, 0, none⟩ (.int .i64 xa)).setCell ⟨wr.heap.size + 1, 1, none⟩ (.int .i64 xb) := ⟨_, rfl⟩
              have BlT := Lib.hid (show Blk wT bl 23 #[.int .i64 xa, .int .i64 xb] by rw [hwT, ← HzE.out]; exact Blk.set_ne (Blk.set_ne BlP.out _ _ _ (Ne.symm hne)) _ _ _ (Ne.symm hne))
              have HT := Lib.hid (show Live w (Also (Also (fun k => k = bl) wr wA) wA wM) wT _ _ by rw [hwT, ← HzE.out]; exact (HP.out.poke 0 (.int .i64 xa) Hym.out HzA.out).poke 1 (.int .i64 xb) Hym.out HzA.out)
              have HWT := Lib.hid hwT
              clear hwP hwT hne hnx
              go_wp2_with fail
              rw [← HWP.out, ← HWT.out]
              clear s0 s1 s2 s3 y1 y2 z0 z1 z2 z3 q0 q1 q2 q3 q4 q5
              have hld := HT.out.loadQ (tn_load 1000 s (some (Cur.enc xa xb).1) none fl' kp (xa, xb) HCLX.out)
              refine hld.mono ?_
              rintro e wL ⟨rfl, hbL⟩
              have HTL := Lib.hid (HT.out.keep hbL)
              have BlL := Lib.hid (BlT.out.below hbL)
              obtain ⟨wC, hwC⟩ : ∃ wC, wC = wL.alloc (.cells #[.int .i64 xa, .int .i64 xb] 23 (0, 0)) := ⟨_, rfl⟩
              have hbC : Below wL.heap.size wL wC := by rw [hwC]; exact (Below.refl _ _).alloc (Nat.le_refl _) _
              have BC := Lib.hid (show Blk wC wL.heap.size 23 #[.int .i64 xa, .int .i64 xb] by rw [hwC]; exact Blk.alloc_new _ _ _)
              have HTC := Lib.hid (HTL.out.keep hbC)
              have BlC := Lib.hid (BlL.out.below hbC)
              obtain ⟨r0, r1⟩ := blkc BlC.out
              obtain ⟨r2, r3⟩ := blkc BC.out
              have r4 := BlC.out.free 0
              have r5 := BlC.out.free 1
              rw [hwC] at r0 r1 r2 r3 r4 r5
              have HWC := Lib.hid hwC
              have Hend := Lib.hid (And.intro (((HTC.out.drop (fun k hk => .inl (.inl hk))).poke 0 (.int .i64 xa) rfl Hbl0.out).poke 1 (.int .i64 xb) rfl Hbl0.out) (cur_two BlC.out (.int .i64 xa) (.int .i64 xb)))
              clear hld hbL hbC hwC
              go_wp2_with fail
              rw [← HWC.out]
              go_roundw
              case rel => exact ⟨i + 1, s, (some (Cur.enc xa xb).1), none, fl', kp, xa, xb, by go_num, by omega, HCLX.out, Hend.out.2, Hend.out.1⟩
              case measure => simp [intOf]; omega
            · have Hsv := Lib.hid (HM.out.saveQ xa xb Hoc.out hsv)
              clear hmay hsv hclx
              go_wp2_with fail
              rw [← HWA.out, ← HWM.out]
              refine Hsv.out.mono ?_
              rintro e wS ⟨rfl, hlS, hkS⟩
              have HS := Lib.hid hlS
              have BlS := Lib.hid (BlM.out.chg hkS (fun e => e Hyl.out))
              have BxS := Lib.hid (BxM.out.chg hkS (fun e => e Hyx.out))
              have BmS := Lib.hid (BM.out.chg hkS (fun e => e Hym.out))
              clear hlS hkS s0 s1 y1 y2
              have hne : wA.heap.size ≠ bl := by have := HV.out.lt bl rfl; have h2 := BA.out.lt; omega
              have y1 := BxS.out.cell 1
              have y2 := BxS.out.cell 2
              simp at y1 y2
              have z2 := BmS.out.free 0
              have z3 := BmS.out.free 1
              obtain ⟨q4, q5⟩ := blkc BmS.out
              rw [HzE.out] at q4 q5 z2 z3
              obtain ⟨wP, hwP⟩ : ∃ wP, wP = (wS.setCell ⟨wr.heap.size + 1, 0, none⟩ (.int .i64 xa)).setCell ⟨wr.heap.size + 1, 1, none⟩ (.int .i64 xb) := ⟨_, rfl⟩
              have BlP := Lib.hid (show Blk wP bl 23 #[.int .i64 l1, .int .i64 l2] by rw [hwP, ← HzE.out]; exact Blk.set_ne (Blk.set_ne BlS.out _ _ _ (Ne.symm hne)) _ _ _ (Ne.symm hne))
              have HP := Lib.hid (show Live w (Also (Also (fun k => k = bl) wr wA) wA wM) wP _ _ by rw [hwP, ← HzE.out]; exact (HS.out.poke 0 (.int .i64 xa) Hym.out HzA.out).poke 1 (.int .i64 xb) Hym.out HzA.out)
              have HWP := Lib.hid hwP
              clear hwP hne
              go_wp2_with fail
              rw [← HWP.out]
              refine (HP.out.startQ (tn_start _ _ _ _ _ _)).mono ?_
              rintro e wT ⟨rfl, hlT, hkT⟩
              have HT := Lib.hid hlT
              have BlT := Lib.hid (BlP.out.chg hkT (fun e => e Hyl.out))
              clear hlT hkT y1 y2 z2 z3 q4 q5
              go_wp2_with fail
              have hld := HT.out.loadQ (tn_load 1000 (IntKind.i64.wrap (s + 1)) C D2 none kp (l1, l2) HCL.out)
              refine hld.mono ?_
              rintro e wL ⟨rfl, hbL⟩
              have HTL := Lib.hid (HT.out.keep hbL)
              have BlL := Lib.hid (BlT.out.below hbL)
              obtain ⟨wC, hwC⟩ : ∃ wC, wC = wL.alloc (.cells #[.int .i64 l1, .int .i64 l2] 23 (0, 0)) := ⟨_, rfl⟩
              have hbC : Below wL.heap.size wL wC := by rw [hwC]; exact (Below.refl _ _).alloc (Nat.le_refl _) _
              have BC := Lib.hid (show Blk wC wL.heap.size 23 #[.int .i64 l1, .int .i64 l2] by rw [hwC]; exact Blk.alloc_new _ _ _)
              have HTC := Lib.hid (HTL.out.keep hbC)
              have BlC := Lib.hid (BlL.out.below hbC)
              obtain ⟨r0, r1⟩ := blkc BlC.out
              obtain ⟨r2, r3⟩ := blkc BC.out
              have r4 := BlC.out.free 0
              have r5 := BlC.out.free 1
              rw [hwC] at r0 r1 r2 r3 r4 r5
              have HWC := Lib.hid hwC
              have Hend := Lib.hid (And.intro (((HTC.out.drop (fun k hk => .inl (.inl hk))).poke 0 (.int .i64 l1) rfl Hbl0.out).poke 1 (.int .i64 l2) rfl Hbl0.out) (cur_two BlC.out (.int .i64 l1) (.int .i64 l2)))
              clear hld hbL hbC hwC
              go_wp2_with fail
              rw [← HWC.out]
              go_roundw
              case rel => exact ⟨i + 1, (IntKind.i64.wrap (s + 1)), C, D2, none, kp, l1, l2, by go_num, by omega, HCL.out, Hend.out.2, Hend.out.1⟩
              case measure => simp [intOf]; omega
      · obtain rfl : i = l.length := by omega
        go_wp2_with fail
        refine (curDoes_any _).mono ?_
        rintro e w9 ⟨rfl, hb9⟩
        have HB := Lib.hid (HV.out.below.trans (hb9.mono HV.out.size))
        clear hb9
        go_wp2_with fail
        go_ret
        exact ⟨rfl, HB.out⟩
theorem walkCursorsTorn (x : Value × List ActC) (w : World) (h0 : RdK w w.heap.size x.1 x.2 ∧ x.2.length ≤ maxLen) :
    Calls Try.prog 6 #[x.1] w fun e w' => e = .returned (.bool true) ∧ Below w.heap.size w w' :=
  cursorsTorn_any x.1 x.2 w h0.1 h0.2
end Go.Proofs.Ytenbgfejonokdaa

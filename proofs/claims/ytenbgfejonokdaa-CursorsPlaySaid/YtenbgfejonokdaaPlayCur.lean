/- 'CursorsPlay', walked. -/
import Derived.Test.YtenbgfejonokdaaCurRef
import Derived.Test.YtenbgfejonokdaaRefSame
import Derived.Test.YtenbgfejonokdaaCActs
import Derived.Test.YtenbgfejonokdaaCurBack
import Derived.Deep.RegionHeld3
import Derived.BigQuiet
namespace Go.Proofs.Ytenbgfejonokdaa
set_option maxRecDepth 100000
open Go.RowKit Go.Maps
open Dsk

section
variable {w0 w : World} {X : Nat → Prop} {a b : Value} {da db : Dk}
theorem Mate.saveA (h : Mate w0 X w a b da db) (x y : Int) (hx : -9223372036854775808 ≤ x ∧ x ≤ 9223372036854775807) (hy : -9223372036854775808 ≤ y ∧ y ≤ 9223372036854775807) :
    Calls Try.prog 21 #[a, .agg #[.int .i64 x, .int .i64 y]] w fun e w' => e = .returned (.int .i64 (saveD da x y).1) ∧ Mate w0 X w' a b (saveD da x y).2 db ∧ Keeps X w w' :=
  h.on fun _ _ hl => hl.save x y hx hy
theorem Mate.saveB (h : Mate w0 X w a b da db) (x y : Int) (hx : -9223372036854775808 ≤ x ∧ x ≤ 9223372036854775807) (hy : -9223372036854775808 ≤ y ∧ y ≤ 9223372036854775807) :
    Calls Try.prog 37 #[b, .agg #[.int .i64 x, .int .i64 y]] w fun e w' => e = .returned (.int .i64 (saveD db x y).1) ∧ Mate w0 X w' a b da (saveD db x y).2 ∧ Keeps X w w' :=
  h.onR fun _ _ hl => hl.save x y hx hy
theorem Mate.failA (h : Mate w0 X w a b da db) (n : Int) (hn : n ≤ 9223372036854775807) (kv : Value) (keep : List Int) (hk : KeepR w (fun k => w0.heap.size ≤ k) kv keep) (hkl : keep.length ≤ 1099511627776) :
    Calls Try.prog 29 #[a, .int .i64 n, kv] w fun e w' => e = .returned (.int .i64 (da.failAt n keep).1) ∧ Mate w0 X w' a b (da.failAt n keep).2 db ∧ Keeps X w w' :=
  h.on fun _ _ hl => hl.fail n hn kv keep hk hkl
theorem Mate.failB (h : Mate w0 X w a b da db) (n : Int) (hn : n ≤ 9223372036854775807) (kv : Value) (keep : List Int) (hk : KeepR w (fun k => w0.heap.size ≤ k) kv keep) (hkl : keep.length ≤ 1099511627776) :
    Calls Try.prog 33 #[b, .int .i64 n, kv] w fun e w' => e = .returned (.int .i64 (db.failAt n keep).1) ∧ Mate w0 X w' a b da (db.failAt n keep).2 ∧ Keeps X w w' :=
  h.onR fun _ _ hl => hl.fail n hn kv keep (hk.mono fun _ e => e.2) hkl
theorem Mate.crashA (h : Mate w0 X w a b da db) (kv : Value) (keep : List Int) (hk : KeepR w (fun k => w0.heap.size ≤ k) kv keep) (hkl : keep.length ≤ 1099511627776) :
    Calls Try.prog 23 #[a, kv] w fun e w' => e = .returned (.int .i64 (da.crash keep).1) ∧ Mate w0 X w' a b (da.crash keep).2 db ∧ Keeps X w w' :=
  h.on fun _ _ hl => hl.crash kv keep (hk.mono fun _ e => e.2) (by omega)
theorem Mate.crashB (h : Mate w0 X w a b da db) (kv : Value) (keep : List Int) (hk : KeepR w (fun k => w0.heap.size ≤ k) kv keep) (hkl : keep.length ≤ 1099511627776) :
    Calls Try.prog 34 #[b, kv] w fun e w' => e = .returned (.int .i64 (db.crash keep).1) ∧ Mate w0 X w' a b da (db.crash keep).2 ∧ Keeps X w w' :=
  h.onR fun _ _ hl => hl.crash kv keep (hk.mono fun _ e => e.2) (by omega)
theorem Mate.appA (h : Mate w0 X w a b da db) (name s : ByteArray) (hn : name.size ≤ maxLen) (hs : s.size ≤ 300) :
    Calls Try.prog 24 #[a, .string name, .string s] w fun e w' => e = .returned (.int .i64 (da.append name.data.toList s.data.toList).1) ∧ Mate w0 X w' a b (da.append name.data.toList s.data.toList).2 db ∧ Keeps X w w' :=
  h.on fun _ _ hl => hl.append name s hn (by unfold maxLen; omega)
theorem Mate.appB (h : Mate w0 X w a b da db) (name s : ByteArray) (hn : name.size ≤ maxLen) (hs : s.size ≤ 300) :
    Calls Try.prog 36 #[b, .string name, .string s] w fun e w' => e = .returned (.int .i64 (db.append name.data.toList s.data.toList).1) ∧ Mate w0 X w' a b da (db.append name.data.toList s.data.toList).2 ∧ Keeps X w w' :=
  h.onR fun _ _ hl => hl.append name s hn (by omega)
theorem Mate.startA (h : Mate w0 X w a b da db) :
    Calls Try.prog 30 #[a] w fun e w' => e = .returned (.int .i64 da.start.1) ∧ Mate w0 X w' a b da.start.2 db ∧ Keeps X w w' :=
  h.on fun _ _ hl => hl.start
theorem Mate.startB (h : Mate w0 X w a b da db) :
    Calls Try.prog 35 #[b] w fun e w' => e = .returned (.int .i64 db.start.1) ∧ Mate w0 X w' a b da db.start.2 ∧ Keeps X w w' :=
  h.onR fun _ _ hl => hl.start
end
theorem blk7' {w : World} {b : Nat} {t : TypeId} {c0 c1 c2 c3 c4 c5 c6 : Value} (h : Blk w b t #[c0, c1, c2, c3, c4, c5, c6]) : w.cell? ⟨b, 0, none⟩ = some c0 ∧ w.cell? ⟨b, 1, none⟩ = some c1 ∧ w.cell? ⟨b, 2, none⟩ = some c2 ∧ w.cell? ⟨b, 3, none⟩ = some c3 ∧ w.cell? ⟨b, 4, none⟩ = some c4 ∧ w.cell? ⟨b, 5, none⟩ = some c5 ∧ w.cell? ⟨b, 6, none⟩ = some c6 :=
  ⟨h.cell 0, h.cell 1, h.cell 2, h.cell 3, h.cell 4, h.cell 5, h.cell 6⟩
set_option maxHeartbeats 16000000 in
theorem cursorsPlay_any (cap : Int) (hcap : -9223372036854775808 ≤ cap ∧ cap ≤ 9223372036854775807) (v : Value) (l : List ActC) (w : World) (h : RdK w w.heap.size v l) (hm : l.length ≤ maxLen) :
    Calls Try.prog 8 #[.int .i64 cap, v] w fun e w' => e = .returned (.bool true) ∧ Below w.heap.size w w' := by
  have hm2 : l.length ≤ 9223372036854775807 := by unfold maxLen at hm; omega
  have hg := greatC_any v l w.heap.size w h hm2
  obtain ⟨x, c, hv, hj⟩ := id h
  subst hv
  clear hj
  have Hg := Lib.hid hg
  have H := Lib.hid h
  clear h hm hg
  go_enter Try.func8, Try.ntmps8
  go_wp2_with fail
  refine Hg.out.mono ?_
  rintro e w0 ⟨b, rfl, hsm, rfl⟩
  cases b with
  | true =>
    clear hsm
    go_wp2_with fail
    go_ret
    exact ⟨rfl, Below.refl _ _⟩
  | false =>
    have Hs := Lib.hid (hsm rfl)
    have hl100 : l.length ≤ 100 := Hs.out.1
    clear hsm Hg
    by_cases hc : cap < 1 ∨ 1048576 < cap
    · have Hn1 := Lib.hid (new_no cap w hc)
      have Hn2 := Lib.hid (refNew_no cap w hc hcap)
      clear hc
      go_wp2_with fail
      refine Hn1.out.mono ?_
      rintro e w1 ⟨rfl, rfl⟩
      go_wp2_with fail
      refine Hn2.out.mono ?_
      rintro e w1 ⟨rfl, rfl⟩
      go_wp2_with fail
      refine (curDoes_any w).mono ?_
      rintro e w1 ⟨rfl, hb⟩
      have Hb := Lib.hid hb
      clear hb
      go_wp2_with fail
      go_ret
      exact ⟨rfl, Hb.out⟩
    obtain ⟨c0, hc0⟩ : ∃ c0 : Nat, cap = c0 := ⟨cap.toNat, by omega⟩
    have hc1 : 1 ≤ c0 ∧ c0 ≤ 1048576 := by omega
    subst hc0
    have HC := Lib.hid hc1
    clear hc hcap hc1
    go_wp2_with fail
    refine (live_new c0 w HC.out.1 HC.out.2).mono ?_
    rintro e w1 ⟨u, rfl, hl⟩
    obtain ⟨ba, rfl⟩ := hl.ptr
    have HL := Lib.hid hl
    clear hl
    go_wp2_with fail
    refine (rlive_new c0 w1 HC.out.1 HC.out.2).mono ?_
    rintro e w2 ⟨u, rfl, hl⟩
    obtain ⟨br, rfl⟩ := hl.ptr
    have HM := Lib.hid (Mate.pair HL.out hl)
    clear hl HL
    go_wp2_with fail
    go_loopw [9, 10, 11, 12, 13, 14] (fun v9 _ _ _ _ _ wr => ∃ (i : Nat) (d : Dk), v9 = .int .i64 i ∧ i ≤ l.length ∧ Mate w (fun _ => False) wr (.pointer (some ⟨ba, 0, none⟩)) (.pointer (some ⟨br, 0, none⟩)) d d) (fun v9 _ _ _ _ _ _ => l.length - (intOf v9).toNat)
    case atStart => exact ⟨0, _, rfl, Nat.zero_le _, HM.out⟩
    case round =>
      obtain ⟨i, d, rfl, hi, hmt⟩ := hrel
      have HM := Lib.hid hmt
      clear hmt
      by_cases hlt : i < l.length
      · obtain ⟨x', c', hv, hel⟩ := H.out.chg (Chg.of_below HM.out.below (S := fun _ => False)) (fun _ e => e.elim)
        injection hv with e1 e2 e3
        subst e1 e3
        obtain ⟨ho, b, off, rfl, hbl0, hbl, hc⟩ := hel i hlt
        obtain ⟨k0, k1, k2, k3, k4, k5, k6⟩ := actC_load (b := b) (off := off + i * 7) (a := l[i]) (fun j hj => by rw [Nat.add_assoc]; exact hc j hj)
        obtain ⟨x, hx⟩ : ∃ x, x = l[i] := ⟨_, rfl⟩
        have hkl : x.keep.length ≤ 100 := by rw [hx]; exact (Hs.out.2 i hlt).1
        have hdl : x.data.size ≤ 300 := by rw [hx]; exact (Hs.out.2 i hlt).2.2
        have hnl : x.name.size ≤ maxLen := by have := (Hs.out.2 i hlt).2.1; rw [← hx] at this; unfold maxLen; omega
        rw [← hx] at k0 k1 k2 k3 k4 k5 k6 ho
        have Ho := Lib.hid (show ∀ W : World, Below w.heap.size w W → KeepR W (fun k => w.heap.size ≤ k) x.kv x.keep from fun W hb => by
          obtain ⟨_, _, hv0, hel0⟩ := H.out.chg (Chg.of_below hb (S := fun _ => False)) (fun _ e => e.elim)
          have ho0 := (hel0 i hlt).1
          rw [← hx] at ho0
          exact ho0.kv)
        have Hoc := Lib.hid ho.c
        have hn1 := ho.n
        have hk256 := ho.kind
        have hii : (i : Int) < l.length := by omega
        obtain ⟨kx, kc, hkv⟩ := ho.kv.form'
        rw [hkv] at k4 Ho
        obtain ⟨xk, ⟨xa, xb⟩, xn, xv, xkeep, xname, xdata⟩ := x
        simp only at *
        obtain ⟨m, hm⟩ : ∃ m : Nat, (xk : Int) % 11 = m := ⟨xk % 11, by omega⟩
        have hm11 : m < 11 := by omega
        obtain ⟨wA, hwA⟩ : ∃ wA, wA = wr.alloc (.cells #[.int .u8 xk, .int .i64 xa, .int .i64 xb, .int .i64 xn, .slice kx xkeep.length kc, .string xname, .string xdata] 52 (0, 0)) := ⟨_, rfl⟩
        have hbA : Below wr.heap.size wr wA := by rw [hwA]; exact (Below.refl _ _).alloc (Nat.le_refl _) _
        have BA : Blk wA wr.heap.size 52 #[.int .u8 xk, .int .i64 xa, .int .i64 xb, .int .i64 xn, .slice kx xkeep.length kc, .string xname, .string xdata] := by rw [hwA]; exact Blk.alloc_new _ _ _
        have hzA : wA.heap.size = wr.heap.size + 1 := by rw [hwA]; simp
        obtain ⟨wB, hwB⟩ : ∃ wB, wB = wA.alloc (.cells #[.int .i64 0, .int .i64 0] 23 (0, 0)) := ⟨_, rfl⟩
        have hbB : Below wA.heap.size wA wB := by rw [hwB]; exact (Below.refl _ _).alloc (Nat.le_refl _) _
        have BB : Blk wB (wr.heap.size + 1) 23 #[.int .i64 0, .int .i64 0] := by rw [← hzA, hwB]; exact Blk.alloc_new _ _ _
        have hzB : wB.heap.size = wr.heap.size + 1 + 1 := by rw [hwB]; simp [hzA]
        obtain ⟨wC, hwC⟩ : ∃ wC, wC = wB.alloc (.cells #[.int .i64 0, .int .i64 0] 23 (0, 0)) := ⟨_, rfl⟩
        have hbC : Below wB.heap.size wB wC := by rw [hwC]; exact (Below.refl _ _).alloc (Nat.le_refl _) _
        have PC := Lib.hid (show Blk wC (wr.heap.size + 1 + 1) 23 #[.int .i64 0, .int .i64 0] by rw [← hzB, hwC]; exact Blk.alloc_new _ _ _)
        have PB := Lib.hid (BB.below hbC)
        have PA := Lib.hid ((BA.below hbB).below hbC)
        have hbr : Below wr.heap.size wr wC := (hbA.trans (hbB.mono (by omega))).trans (hbC.mono (by omega))
        obtain ⟨X, hX⟩ : ∃ X, X = Also (fun _ => False) wr wC := ⟨_, rfl⟩
        have hzC : wC.heap.size = wr.heap.size + 1 + 1 + 1 := by rw [hwC]; simp [hzB]
        have Hx0 := Lib.hid (show X wr.heap.size by rw [hX]; exact .inr ⟨Nat.le_refl _, by omega⟩)
        have Hx1 := Lib.hid (show X (wr.heap.size + 1) by rw [hX]; exact .inr ⟨by omega, by omega⟩)
        have Hx2 := Lib.hid (show X (wr.heap.size + 1 + 1) by rw [hX]; exact .inr ⟨by omega, by omega⟩)
        have MC := Lib.hid (show Mate w X wC (.pointer (some ⟨ba, 0, none⟩)) (.pointer (some ⟨br, 0, none⟩)) d d by rw [hX]; exact HM.out.add hbr)
        have MD := Lib.hid (MC.out.keep (Below.refl wC.heap.size wC).drew)
        have PAD := Lib.hid (PA.out.below (Below.refl wC.heap.size wC).drew)
        have PBD := Lib.hid (PB.out.below (Below.refl wC.heap.size wC).drew)
        have PCD := Lib.hid (PC.out.below (Below.refl wC.heap.size wC).drew)
        have HSZ := Lib.hid HM.out.size
        obtain ⟨r0, r1, r2, r3, r4, r5, r6⟩ := blk7' PA.out
        rw [hwC, hwB, hwA] at r0 r1 r2 r3 r4 r5 r6
        have HWA := Lib.hid hwA
        have HWB := Lib.hid hwB
        have HWC := Lib.hid hwC
        have Hn := Lib.hid hn1.2
        have Hdl := Lib.hid hdl
        have Hnl := Lib.hid hnl
        have Hkl := Lib.hid (show xkeep.length ≤ 1099511627776 by omega)
        clear hc hel ho hx e2 hkv hbA hwA hwB hwC hbB hbC hbr BA BB hX hzA hzB hzC hn1 hdl hnl
        by_cases hm5 : m = 5 ∨ m = 6
        · obtain ⟨e1, he1⟩ : ∃ r, r = loadD d := ⟨_, rfl⟩
          obtain ⟨⟨g1, g2⟩, g3⟩ := e1
          obtain ⟨d1, hd1⟩ : ∃ x, x = d := ⟨_, rfl⟩
          have hl1 := MC.out.first.load
          rw [← he1] at hl1
          unfold curV at hl1
          have HD := Lib.hid hl1
          clear hl1
          have HE := he1
          clear he1
          rcases hm5 with rfl | rfl
          all_goals
            go_wp2_with fail
            rw [← HWA.out, ← HWB.out, ← HWC.out]
            clear r0 r1 r2 r3 r4 r5 r6
            refine HD.out.mono ?_
            rintro e wD ⟨rfl, hbD⟩
            have HMD := Lib.hid (MC.out.keep hbD)
            have BB := Lib.hid (PB.out.below hbD)
            have BC := Lib.hid (PC.out.below hbD)
            obtain ⟨j0, j1⟩ := blkc BB.out
            have f1 := BB.out.free 0
            have f2 := BB.out.free 1
            obtain ⟨wE, hwE⟩ : ∃ wE, wE = (wD.setCell ⟨wr.heap.size + 1, 0, none⟩ (.int .i64 g1)).setCell ⟨wr.heap.size + 1, 1, none⟩ (.int .i64 g2) := ⟨_, rfl⟩
            have DB := Lib.hid (show Blk wE (wr.heap.size + 1) 23 #[.int .i64 g1, .int .i64 g2] by rw [hwE]; exact cur_two BB.out _ _)
            have DC := Lib.hid (show Blk wE (wr.heap.size + 1 + 1) 23 #[.int .i64 0, .int .i64 0] by rw [hwE]; exact Blk.set_ne (Blk.set_ne BC.out _ _ _ (by omega)) _ _ _ (by omega))
            have HME := Lib.hid (show Mate w X wE (.pointer (some ⟨ba, 0, none⟩)) (.pointer (some ⟨br, 0, none⟩)) d d by
              rw [hwE]
              exact (HMD.out.poke (put_wr _ _ _ _) (fun j e => by rw [e]; exact ⟨Hx1.out, by have := HSZ.out; omega⟩)).poke (put_wr _ _ _ _) (fun j e => by rw [e]; exact ⟨Hx1.out, by have := HSZ.out; omega⟩))
            have HWE := Lib.hid hwE
            clear hwE hbD
            go_wp2_with fail
            rw [← HWE.out]
            clear f1 f2 j0 j1
            have HD2 := HME.out.second.load
            rw [← HE] at HD2
            unfold curV at HD2
            refine HD2.mono ?_
            rintro e wS ⟨rfl, hbS⟩
            have CB := Lib.hid (DB.out.below hbS)
            have CC0 := Lib.hid (DC.out.below hbS)
            have HMS0 := Lib.hid (HME.out.keep hbS)
            obtain ⟨j0, j1⟩ := blkc CC0.out
            have f3 := CC0.out.free 0
            have f4 := CC0.out.free 1
            obtain ⟨wF, hwF⟩ : ∃ wF, wF = (wS.setCell ⟨wr.heap.size + 1 + 1, 0, none⟩ (.int .i64 g1)).setCell ⟨wr.heap.size + 1 + 1, 1, none⟩ (.int .i64 g2) := ⟨_, rfl⟩
            have EB := Lib.hid (show Blk wF (wr.heap.size + 1) 23 #[.int .i64 g1, .int .i64 g2] by rw [hwF]; exact Blk.set_ne (Blk.set_ne CB.out _ _ _ (by omega)) _ _ _ (by omega))
            have EC := Lib.hid (show Blk wF (wr.heap.size + 1 + 1) 23 #[.int .i64 g1, .int .i64 g2] by rw [hwF]; exact cur_two CC0.out _ _)
            have HMS := Lib.hid (show Mate w X wF (.pointer (some ⟨ba, 0, none⟩)) (.pointer (some ⟨br, 0, none⟩)) d d by
              rw [hwF]
              exact (HMS0.out.poke (put_wr _ _ _ _) (fun j e => by rw [e]; exact ⟨Hx2.out, by have := HSZ.out; omega⟩)).poke (put_wr _ _ _ _) (fun j e => by rw [e]; exact ⟨Hx2.out, by have := HSZ.out; omega⟩))
            obtain ⟨y0, y1⟩ := blkc EB.out
            obtain ⟨z0, z1⟩ := blkc EC.out
            have HWF := Lib.hid hwF
            rw [hwF] at y0 y1 z0 z1
            clear hwF hbS HD2
            go_wp2_with fail
            rw [← HWF.out]
            clear f3 f4 j0 j1 y0 y1 z0 z1
            refine (same_any HMS.out).mono ?_
            rintro e wZ ⟨rfl, hbZ⟩
            have HMZ := Lib.hid (HMS.out.keep hbZ)
            clear hbZ
            go_wp2_with fail
            go_roundw
            case rel => exact ⟨i + 1, d, by go_num, by omega, HMZ.out.drop (fun _ e => e.elim)⟩
            case measure => simp [intOf]; omega
        by_cases hm9 : m = 9
        · subst hm9
          obtain ⟨e1, he1⟩ : ∃ r, r = d.start.1 := ⟨_, rfl⟩
          obtain ⟨d1, hd1⟩ : ∃ x, x = d.start.2 := ⟨_, rfl⟩
          have HD := Lib.hid (fun (W : World) (hM : Mate w X W (.pointer (some ⟨ba, 0, none⟩)) (.pointer (some ⟨br, 0, none⟩)) d d) => hM.startA)
          have HS := Lib.hid (fun (W : World) (hM : Mate w X W (.pointer (some ⟨ba, 0, none⟩)) (.pointer (some ⟨br, 0, none⟩)) d1 d) => hM.startB)
          rw [← he1, ← hd1] at HD HS
          clear he1 hd1
          go_wp2_with fail
          rw [← HWA.out, ← HWB.out, ← HWC.out]
          clear r0 r1 r2 r3 r4 r5 r6
          refine (HD.out _ MC.out).mono ?_
          rintro e wD ⟨rfl, hmD, hkD⟩
          have BB := Lib.hid (PB.out.chg hkD (fun e => e Hx1.out))
          have BC := Lib.hid (PC.out.chg hkD (fun e => e Hx2.out))
          have HMD := Lib.hid hmD
          clear hmD hkD
          go_wp2_with fail
          refine (HS.out _ HMD.out).mono ?_
          rintro e wS ⟨rfl, hmS, hkS⟩
          have CB := Lib.hid (BB.out.chg hkS (fun e => e Hx1.out))
          have CC := Lib.hid (BC.out.chg hkS (fun e => e Hx2.out))
          have HMS := Lib.hid hmS
          clear hmS hkS
          obtain ⟨y0, y1⟩ := blkc CB.out
          obtain ⟨z0, z1⟩ := blkc CC.out
          go_wp2_with fail
          refine (same_any HMS.out).mono ?_
          rintro e wZ ⟨rfl, hbZ⟩
          have HMZ := Lib.hid (HMS.out.keep hbZ)
          clear hbZ y0 y1 z0 z1
          go_wp2_with fail
          go_roundw
          case rel => exact ⟨i + 1, d1, by go_num, by omega, HMZ.out.drop (fun _ e => e.elim)⟩
          case measure => simp [intOf]; omega
        by_cases hm7 : m = 7
        · subst hm7
          obtain ⟨e1, he1⟩ : ∃ r, r = (d.failAt xn xkeep).1 := ⟨_, rfl⟩
          obtain ⟨d1, hd1⟩ : ∃ x, x = (d.failAt xn xkeep).2 := ⟨_, rfl⟩
          have HD := Lib.hid (fun (W : World) (hM : Mate w X W (.pointer (some ⟨ba, 0, none⟩)) (.pointer (some ⟨br, 0, none⟩)) d d) => hM.failA xn Hn.out _ xkeep (Ho.out W hM.below) Hkl.out)
          have HS := Lib.hid (fun (W : World) (hM : Mate w X W (.pointer (some ⟨ba, 0, none⟩)) (.pointer (some ⟨br, 0, none⟩)) d1 d) => hM.failB xn Hn.out _ xkeep (Ho.out W hM.below) Hkl.out)
          rw [← he1, ← hd1] at HD HS
          clear he1 hd1
          go_wp2_with fail
          rw [← HWA.out, ← HWB.out, ← HWC.out]
          clear r0 r1 r2 r3 r4 r5 r6
          obtain ⟨s0, s1, s2, s3, s4, s5, s6⟩ := blk7' PA.out
          go_region_held3 (fun W => W.cell? ⟨wr.heap.size, 0, none⟩ = some (.int .u8 xk) ∧ W.cell? ⟨wr.heap.size, 1, none⟩ = some (.int .i64 xa) ∧ W.cell? ⟨wr.heap.size, 2, none⟩ = some (.int .i64 xb) ∧ W.cell? ⟨wr.heap.size, 3, none⟩ = some (.int .i64 xn) ∧ W.cell? ⟨wr.heap.size, 4, none⟩ = some (.slice kx xkeep.length kc) ∧ W.cell? ⟨wr.heap.size, 5, none⟩ = some (.string xname) ∧ W.cell? ⟨wr.heap.size, 6, none⟩ = some (.string xdata))
            (first | go_keep | exact hq2 | exact hq1)
            (first
              | ((go_at_call 29; (refine (HD.out _ MD.out).mono ?_; rintro e wD ⟨rfl, hmD, hkD⟩; have BD := Lib.hid (PAD.out.chg hkD (fun e => e Hx0.out)); have BB := Lib.hid (PBD.out.chg hkD (fun e => e Hx1.out)); have BC := Lib.hid (PCD.out.chg hkD (fun e => e Hx2.out)); have HMD := Lib.hid hmD; have hq1 := blk7' BD.out)))
              | ((go_at_call 33; (refine (HS.out _ HMD.out).mono ?_; rintro e wS ⟨rfl, hmS, hkS⟩; have CA := Lib.hid (BD.out.chg hkS (fun e => e Hx0.out)); have CB := Lib.hid (BB.out.chg hkS (fun e => e Hx1.out)); have CC := Lib.hid (BC.out.chg hkS (fun e => e Hx2.out)); have HMS := Lib.hid hmS; have hq2 := blk7' CA.out))))
          all_goals
            clear hq1 hq2 hmD hkD hmS hkS s0 s1 s2 s3 s4 s5 s6
            obtain ⟨y0, y1⟩ := blkc CB.out
            obtain ⟨z0, z1⟩ := blkc CC.out
            go_wp2_with fail
            refine (same_any HMS.out).mono ?_
            rintro e wZ ⟨rfl, hbZ⟩
            have HMZ := Lib.hid (HMS.out.keep hbZ)
            clear hbZ y0 y1 z0 z1
            go_wp2_with fail
            go_roundw
            case rel => exact ⟨i + 1, d1, by go_num, by omega, HMZ.out.drop (fun _ e => e.elim)⟩
            case measure => simp [intOf]; omega
        by_cases hm8 : m = 8
        · subst hm8
          obtain ⟨e1, he1⟩ : ∃ r, r = (d.crash xkeep).1 := ⟨_, rfl⟩
          obtain ⟨d1, hd1⟩ : ∃ x, x = (d.crash xkeep).2 := ⟨_, rfl⟩
          have HD := Lib.hid (fun (W : World) (hM : Mate w X W (.pointer (some ⟨ba, 0, none⟩)) (.pointer (some ⟨br, 0, none⟩)) d d) => hM.crashA _ xkeep (Ho.out W hM.below) Hkl.out)
          have HS := Lib.hid (fun (W : World) (hM : Mate w X W (.pointer (some ⟨ba, 0, none⟩)) (.pointer (some ⟨br, 0, none⟩)) d1 d) => hM.crashB _ xkeep (Ho.out W hM.below) Hkl.out)
          rw [← he1, ← hd1] at HD HS
          clear he1 hd1
          go_wp2_with fail
          rw [← HWA.out, ← HWB.out, ← HWC.out]
          clear r0 r1 r2 r3 r4 r5 r6
          obtain ⟨s0, s1, s2, s3, s4, s5, s6⟩ := blk7' PA.out
          go_region_held3 (fun W => W.cell? ⟨wr.heap.size, 0, none⟩ = some (.int .u8 xk) ∧ W.cell? ⟨wr.heap.size, 1, none⟩ = some (.int .i64 xa) ∧ W.cell? ⟨wr.heap.size, 2, none⟩ = some (.int .i64 xb) ∧ W.cell? ⟨wr.heap.size, 3, none⟩ = some (.int .i64 xn) ∧ W.cell? ⟨wr.heap.size, 4, none⟩ = some (.slice kx xkeep.length kc) ∧ W.cell? ⟨wr.heap.size, 5, none⟩ = some (.string xname) ∧ W.cell? ⟨wr.heap.size, 6, none⟩ = some (.string xdata))
            (first | go_keep | exact hq2 | exact hq1)
            (first
              | ((go_at_call 23; (refine (HD.out _ MD.out).mono ?_; rintro e wD ⟨rfl, hmD, hkD⟩; have BD := Lib.hid (PAD.out.chg hkD (fun e => e Hx0.out)); have BB := Lib.hid (PBD.out.chg hkD (fun e => e Hx1.out)); have BC := Lib.hid (PCD.out.chg hkD (fun e => e Hx2.out)); have HMD := Lib.hid hmD; have hq1 := blk7' BD.out)))
              | ((go_at_call 34; (refine (HS.out _ HMD.out).mono ?_; rintro e wS ⟨rfl, hmS, hkS⟩; have CA := Lib.hid (BD.out.chg hkS (fun e => e Hx0.out)); have CB := Lib.hid (BB.out.chg hkS (fun e => e Hx1.out)); have CC := Lib.hid (BC.out.chg hkS (fun e => e Hx2.out)); have HMS := Lib.hid hmS; have hq2 := blk7' CA.out))))
          all_goals
            clear hq1 hq2 hmD hkD hmS hkS s0 s1 s2 s3 s4 s5 s6
            obtain ⟨y0, y1⟩ := blkc CB.out
            obtain ⟨z0, z1⟩ := blkc CC.out
            go_wp2_with fail
            refine (same_any HMS.out).mono ?_
            rintro e wZ ⟨rfl, hbZ⟩
            have HMZ := Lib.hid (HMS.out.keep hbZ)
            clear hbZ y0 y1 z0 z1
            go_wp2_with fail
            go_roundw
            case rel => exact ⟨i + 1, d1, by go_num, by omega, HMZ.out.drop (fun _ e => e.elim)⟩
            case measure => simp [intOf]; omega
        by_cases hm10 : m = 10
        · subst hm10
          obtain ⟨e1, he1⟩ : ∃ r, r = (d.append xname.data.toList xdata.data.toList).1 := ⟨_, rfl⟩
          obtain ⟨d1, hd1⟩ : ∃ x, x = (d.append xname.data.toList xdata.data.toList).2 := ⟨_, rfl⟩
          have HD := Lib.hid (fun (W : World) (hM : Mate w X W (.pointer (some ⟨ba, 0, none⟩)) (.pointer (some ⟨br, 0, none⟩)) d d) => hM.appA xname xdata Hnl.out Hdl.out)
          have HS := Lib.hid (fun (W : World) (hM : Mate w X W (.pointer (some ⟨ba, 0, none⟩)) (.pointer (some ⟨br, 0, none⟩)) d1 d) => hM.appB xname xdata Hnl.out Hdl.out)
          rw [← he1, ← hd1] at HD HS
          clear he1 hd1
          go_wp2_with fail
          rw [← HWA.out, ← HWB.out, ← HWC.out]
          clear r0 r1 r2 r3 r4 r5 r6
          obtain ⟨s0, s1, s2, s3, s4, s5, s6⟩ := blk7' PA.out
          go_region_held3 (fun W => W.cell? ⟨wr.heap.size, 0, none⟩ = some (.int .u8 xk) ∧ W.cell? ⟨wr.heap.size, 1, none⟩ = some (.int .i64 xa) ∧ W.cell? ⟨wr.heap.size, 2, none⟩ = some (.int .i64 xb) ∧ W.cell? ⟨wr.heap.size, 3, none⟩ = some (.int .i64 xn) ∧ W.cell? ⟨wr.heap.size, 4, none⟩ = some (.slice kx xkeep.length kc) ∧ W.cell? ⟨wr.heap.size, 5, none⟩ = some (.string xname) ∧ W.cell? ⟨wr.heap.size, 6, none⟩ = some (.string xdata))
            (first | go_keep | exact hq2 | exact hq1)
            (first
              | ((go_at_call 24; (refine (HD.out _ MD.out).mono ?_; rintro e wD ⟨rfl, hmD, hkD⟩; have BD := Lib.hid (PAD.out.chg hkD (fun e => e Hx0.out)); have BB := Lib.hid (PBD.out.chg hkD (fun e => e Hx1.out)); have BC := Lib.hid (PCD.out.chg hkD (fun e => e Hx2.out)); have HMD := Lib.hid hmD; have hq1 := blk7' BD.out)))
              | ((go_at_call 36; (refine (HS.out _ HMD.out).mono ?_; rintro e wS ⟨rfl, hmS, hkS⟩; have CA := Lib.hid (BD.out.chg hkS (fun e => e Hx0.out)); have CB := Lib.hid (BB.out.chg hkS (fun e => e Hx1.out)); have CC := Lib.hid (BC.out.chg hkS (fun e => e Hx2.out)); have HMS := Lib.hid hmS; have hq2 := blk7' CA.out))))
          all_goals
            clear hq1 hq2 hmD hkD hmS hkS s0 s1 s2 s3 s4 s5 s6
            obtain ⟨y0, y1⟩ := blkc CB.out
            obtain ⟨z0, z1⟩ := blkc CC.out
            go_wp2_with fail
            refine (same_any HMS.out).mono ?_
            rintro e wZ ⟨rfl, hbZ⟩
            have HMZ := Lib.hid (HMS.out.keep hbZ)
            clear hbZ y0 y1 z0 z1
            go_wp2_with fail
            go_roundw
            case rel => exact ⟨i + 1, d1, by go_num, by omega, HMZ.out.drop (fun _ e => e.elim)⟩
            case measure => simp [intOf]; omega
        have hcs : m = 0 ∨ m = 1 ∨ m = 2 ∨ m = 3 ∨ m = 4 := by omega
        clear hm5 hm9 hm7 hm8 hm10 hm11
        rcases hcs with rfl | rfl | rfl | rfl | rfl
        all_goals
          obtain ⟨e1, he1⟩ : ∃ r, r = (saveD d xa xb).1 := ⟨_, rfl⟩
          obtain ⟨d1, hd1⟩ : ∃ x, x = (saveD d xa xb).2 := ⟨_, rfl⟩
          have HD := Lib.hid (fun (W : World) (hM : Mate w X W (.pointer (some ⟨ba, 0, none⟩)) (.pointer (some ⟨br, 0, none⟩)) d d) => hM.saveA xa xb Hoc.out.1 Hoc.out.2)
          have HS := Lib.hid (fun (W : World) (hM : Mate w X W (.pointer (some ⟨ba, 0, none⟩)) (.pointer (some ⟨br, 0, none⟩)) d1 d) => hM.saveB xa xb Hoc.out.1 Hoc.out.2)
          rw [← he1, ← hd1] at HD HS
          clear he1 hd1
          go_wp2_with fail
          rw [← HWA.out, ← HWB.out, ← HWC.out]
          clear r0 r1 r2 r3 r4 r5 r6
          obtain ⟨s0, s1, s2, s3, s4, s5, s6⟩ := blk7' PA.out
          go_region_held3 (fun W => W.cell? ⟨wr.heap.size, 0, none⟩ = some (.int .u8 xk) ∧ W.cell? ⟨wr.heap.size, 1, none⟩ = some (.int .i64 xa) ∧ W.cell? ⟨wr.heap.size, 2, none⟩ = some (.int .i64 xb) ∧ W.cell? ⟨wr.heap.size, 3, none⟩ = some (.int .i64 xn) ∧ W.cell? ⟨wr.heap.size, 4, none⟩ = some (.slice kx xkeep.length kc) ∧ W.cell? ⟨wr.heap.size, 5, none⟩ = some (.string xname) ∧ W.cell? ⟨wr.heap.size, 6, none⟩ = some (.string xdata))
            (first | go_keep | exact hq2 | exact hq1)
            (first
              | ((go_at_call 21; (refine (HD.out _ MD.out).mono ?_; rintro e wD ⟨rfl, hmD, hkD⟩; have BD := Lib.hid (PAD.out.chg hkD (fun e => e Hx0.out)); have BB := Lib.hid (PBD.out.chg hkD (fun e => e Hx1.out)); have BC := Lib.hid (PCD.out.chg hkD (fun e => e Hx2.out)); have HMD := Lib.hid hmD; have hq1 := blk7' BD.out)))
              | ((go_at_call 37; (refine (HS.out _ HMD.out).mono ?_; rintro e wS ⟨rfl, hmS, hkS⟩; have CA := Lib.hid (BD.out.chg hkS (fun e => e Hx0.out)); have CB := Lib.hid (BB.out.chg hkS (fun e => e Hx1.out)); have CC := Lib.hid (BC.out.chg hkS (fun e => e Hx2.out)); have HMS := Lib.hid hmS; have hq2 := blk7' CA.out))))
          all_goals
            clear hq1 hq2 hmD hkD hmS hkS s0 s1 s2 s3 s4 s5 s6
            obtain ⟨y0, y1⟩ := blkc CB.out
            obtain ⟨z0, z1⟩ := blkc CC.out
            go_wp2_with fail
            refine (same_any HMS.out).mono ?_
            rintro e wZ ⟨rfl, hbZ⟩
            have HMZ := Lib.hid (HMS.out.keep hbZ)
            clear hbZ y0 y1 z0 z1
            go_wp2_with fail
            go_roundw
            case rel => exact ⟨i + 1, d1, by go_num, by omega, HMZ.out.drop (fun _ e => e.elim)⟩
            case measure => simp [intOf]; omega
      · obtain rfl : i = l.length := by omega
        go_wp2_with fail
        refine (curDoes_any wr).mono ?_
        rintro e w3 ⟨rfl, hb⟩
        have Hb := Lib.hid hb
        clear hb
        go_wp2_with fail
        go_ret
        exact ⟨rfl, HM.out.below.trans (Hb.out.mono HM.out.size)⟩
theorem walkCursorsPlay (cap : Int) (x : Value × List ActC) (w : World) (h0 : -9223372036854775808 ≤ cap ∧ cap ≤ 9223372036854775807) (h1 : RdK w w.heap.size x.1 x.2 ∧ x.2.length ≤ maxLen) :
    Calls Try.prog 8 #[.int .i64 cap, x.1] w fun e w' => e = .returned (.bool true) ∧ Below w.heap.size w w' :=
  cursorsPlay_any cap h0 x.1 x.2 w h1.1 h1.2
end Go.Proofs.Ytenbgfejonokdaa

/- 'CursorsBack', walked. -/
import Derived.Test.YtenbgfejonokdaaTornPlain
import Derived.Test.YtenbgfejonokdaaCurDoes
import Derived.Test.YtenbgfejonokdaaCurOpen
namespace Go.Proofs.Ytenbgfejonokdaa
set_option maxRecDepth 100000
open Go.RowKit Go.Maps
open Dsk

section
variable {w0 w : World} {X : Nat → Prop} {v : Value} {d d' : Dk} {r : Int}
theorem Live.crashQ (h : Live w0 X w v d) (kv0 : Value) (keep : List Int) (hk : KeepR w (fun k => ¬ X k ∧ w0.heap.size ≤ k) kv0 keep) (hkl : keep.length ≤ 9223372036854775807) (he : d.crash keep = (r, d')) :
    Calls Try.prog 23 #[v, kv0] w fun e w' => e = .returned (.int .i64 r) ∧ Live w0 X w' v d' ∧ Keeps X w w' := by
  refine (h.crash kv0 keep hk hkl).mono fun _ _ x => ?_
  rw [he] at x
  exact x
theorem Live.startQ (h : Live w0 X w v d) (he : d.start = (r, d')) :
    Calls Try.prog 30 #[v] w fun e w' => e = .returned (.int .i64 r) ∧ Live w0 X w' v d' ∧ Keeps X w w' := by
  refine h.start.mono fun _ _ x => ?_
  rw [he] at x
  exact x
theorem Live.saveQ (h : Live w0 X w v d) (a b : Int) (hc : CurOk (a, b)) (he : saveD d a b = (r, d')) :
    Calls Try.prog 21 #[v, .agg #[.int .i64 a, .int .i64 b]] w fun e w' => e = .returned (.int .i64 r) ∧ Live w0 X w' v d' ∧ Keeps X w w' := by
  refine (h.save a b hc.1 hc.2).mono fun _ _ x => ?_
  rw [he] at x
  exact x
theorem Live.loadQ (h : Live w0 X w v d) {a b : Int} (he : loadD d = ((a, b), r)) :
    Calls Try.prog 20 #[v] w fun e w' => e = .returned (.tuple #[.agg #[.int .i64 a, .int .i64 b], .int .i64 r]) ∧ Below w.heap.size w w' := by
  refine h.load.mono fun _ _ x => ?_
  rw [he] at x
  exact x
end
theorem blkc {w : World} {b : Nat} {x y : Value} (h : Blk w b 23 #[x, y]) : w.cell? ⟨b, 0, none⟩ = some x ∧ w.cell? ⟨b, 1, none⟩ = some y := ⟨h.cell 0, h.cell 1⟩
set_option maxHeartbeats 4000000 in
theorem cursorsBack_any (a b : Int) (s : ByteArray) (kv : Value) (keep : List Int) (w : World) (hc : CurOk (a, b)) (hs : s.size ≤ maxLen) (hk : KeepR w (fun k => w.heap.size ≤ k) kv keep) (hkm : keep.length ≤ maxLen) :
    Calls Try.prog 7 #[curV a b, .string s, kv] w fun e w' => e = .returned (.bool true) ∧ Below w.heap.size w w' := by
  have hkm2 : keep.length ≤ 9223372036854775807 := by unfold maxLen at hkm; omega
  obtain ⟨kx, kc, hkv, hjunk⟩ := id hk
  subst hkv
  clear hjunk
  have Hk := Lib.hid hk
  have Hc := Lib.hid hc
  unfold curV
  obtain ⟨w1, hw1⟩ : ∃ w1, w1 = w.alloc (.cells #[.int .i64 a, .int .i64 b] 23 (0, 0)) := ⟨_, rfl⟩
  have Hb1 := Lib.hid (show Below w.heap.size w w1 by rw [hw1]; exact (Below.refl _ _).alloc (Nat.le_refl _) _)
  have B1 := Lib.hid (show Blk w1 w.heap.size 23 #[.int .i64 a, .int .i64 b] by rw [hw1]; exact Blk.alloc_new _ _ _)
  have HW1 := Lib.hid hw1
  have hen := fun W : World => encode_any a b W hc.1 hc.2
  have hde := fun W : World => decode_any s W hs
  have hdq : ∀ x y, Cur.decR s.data.toList = ((x, y), 0) → Cur.enc x y = (s.data.toList, 0) ∧ Cur.May x y := by
    intro x y h
    unfold Cur.decR at h
    cases hd : Cur.dec s.data.toList with
    | none => rw [hd] at h; simp only [Prod.mk.injEq] at h; exact absurd h.2 (by decide)
    | some c =>
      rw [hd] at h
      simp only [Prod.mk.injEq, and_true] at h
      subst h
      exact ⟨Cur.enc_dec hd, Cur.dec_may hd⟩
  generalize Cur.decR s.data.toList = D at hde hdq
  obtain ⟨⟨d1, d2⟩, d3⟩ := D
  unfold curV at hen hde
  simp only at hde
  have Hen := Lib.hid hen
  have Hde := Lib.hid hde
  have Hdq := Lib.hid hdq
  have Hs := Lib.hid hs
  clear hen hde hdq hc hs hk hkm hw1
  by_cases hk100 : keep.length ≤ 100
  case neg =>
    have g1 : (100 : Int) < keep.length := by omega
    clear hk100
    go_enter Try.func7, Try.ntmps7
    go_wp2_with fail
    go_ret
    rw [← HW1.out]
    exact ⟨rfl, Hb1.out⟩
  have g2 : decide ((100 : Int) < keep.length) = false := decide_eq_false (by omega)
  have g3 : decide (100 < keep.length) = false := decide_eq_false (by omega)
  have hem : ∃ t : ByteArray, t = ⟨(Cur.enc a b).1.toArray⟩ ∧ t.data.toList = (Cur.enc a b).1 ∧ t.size ≤ maxLen := ⟨_, rfl, rfl, lit_le (by
    have := Cur.enc_length a b
    show (List.toArray _).size ≤ _
    rw [List.size_toArray]; omega)⟩
  by_cases hm : Cur.May a b
  case neg =>
    have Hsv := Lib.hid (fun R s C D fl keep => tn_save_not R s C D fl keep a b hm)
    rw [Cur.enc_none hm] at Hen
    clear hem hm
    go_enter Try.func7, Try.ntmps7
    go_wp2_with fail
    rw [← HW1.out]
    go_wp2_with fail
    refine (Hen.out _).mono ?_
    rintro e w2 ⟨rfl, hb⟩
    have Hb2 := Lib.hid hb
    clear hb
    go_wp2_with fail
    refine (Hde.out _).mono ?_
    rintro e w3 ⟨rfl, hb⟩
    have Hb3 := Lib.hid (Hb2.out.trans (hb.mono Hb2.out.size))
    clear hb
    obtain ⟨w4, hw4⟩ : ∃ w4, w4 = w3.alloc (.cells #[.int .i64 d1, .int .i64 d2] 23 (0, 0)) := ⟨_, rfl⟩
    have Hb4 := Lib.hid (show Below w1.heap.size w1 w4 by rw [hw4]; exact Hb3.out.alloc Hb3.out.size _)
    have B4 := Lib.hid (show Blk w4 w3.heap.size 23 #[.int .i64 d1, .int .i64 d2] by rw [hw4]; exact Blk.alloc_new _ _ _)
    have HW4 := Lib.hid hw4
    clear hw4
    by_cases h3 : d3 = 0
    case' pos =>
      have hx := Hdq.out d1 d2 (by rw [h3])
      have hox : CurOk (d1, d2) := by obtain ⟨q1, q2, q3, q4⟩ := hx.2; exact ⟨by simp only; omega, by simp only; omega⟩
      have hen2 := fun W : World => encode_any d1 d2 W hox.1 hox.2
      rw [hx.1] at hen2
      have Hen2 := Lib.hid hen2
      have kk := blkc B4.out
      obtain ⟨k0, k1⟩ := kk
      rw [HW4.out] at k0 k1
      have hss : (⟨s.data.toList.toArray⟩ : ByteArray) = s := by simp
      rw [hss] at Hen2
      unfold curV at Hen2
      subst h3
      clear hx hox hen2 hss
      go_wp2_with fail
      rw [← HW4.out]
      refine (Hen2.out _).mono ?_
      rintro e w5 ⟨rfl, hb⟩
      have Hb5 := Lib.hid (Hb4.out.trans (hb.mono Hb4.out.size))
      clear hb k0 k1
    case' neg =>
      have q3 : (d3 == 0) = false := by rw [beq_eq_false_iff_ne]; exact h3
      have Hb5 := Lib.hid Hb4.out
      obtain ⟨w5, hw5⟩ : ∃ w5, w5 = w4 := ⟨_, rfl⟩
      rw [← hw5] at Hb5
      have HW5 := Lib.hid hw5
      clear hw5 h3
      go_wp2_with fail
      rw [← HW4.out, ← HW5.out]
    all_goals
      go_wp2_with fail
      refine (live_new 100 w5 (by omega) (by omega)).mono ?_
      rintro e w6 ⟨v, rfl, hl⟩
      obtain ⟨bd, rfl⟩ := hl.ptr
      rw [tn_new] at hl
      have H6 := Lib.hid hl
      have Hb6 := Lib.hid (Hb5.out.trans (hl.below.mono Hb5.out.size))
      clear hl
      go_wp2_with fail
      refine (H6.out.loadQ (tn_load 100 0 none none none [] (0, 0) rfl)).mono ?_
      rintro e w7 ⟨rfl, hb⟩
      have Hb7 := Lib.hid (Hb6.out.trans (hb.mono Hb6.out.size))
      obtain ⟨w8, hw8⟩ : ∃ w8, w8 = w7.alloc (.cells #[.int .i64 0, .int .i64 0] 23 (0, 0)) := ⟨_, rfl⟩
      have hb78 : Below w7.heap.size w7 w8 := by rw [hw8]; exact (Below.refl _ _).alloc (Nat.le_refl _) _
      have Hb8 := Lib.hid (Hb7.out.trans (hb78.mono Hb7.out.size))
      have B8 : Blk w8 w7.heap.size 23 #[.int .i64 0, .int .i64 0] := by rw [hw8]; exact Blk.alloc_new _ _ _
      have H8 := Lib.hid ((H6.out.keep hb).add hb78)
      have kk := blkc (B1.out.below Hb8.out)
      obtain ⟨k0, k1⟩ := kk
      rw [hw8] at k0 k1
      have Hx := Lib.hid (show Also (fun _ => False) w7 w8 w7.heap.size from .inr ⟨Nat.le_refl _, B8.lt⟩)
      have HB8 := Lib.hid B8
      have HW8 := Lib.hid hw8
      clear hb hw8 hb78 B8
      go_wp2_with fail
      rw [← HW8.out]
      refine (H8.out.saveQ a b Hc.out (Hsv.out _ _ _ _ _ _)).mono ?_
      rintro e w9 ⟨rfl, hl, hk⟩
      have kk2 := blkc (HB8.out.chg hk (fun e => e Hx.out))
      obtain ⟨k2, k3⟩ := kk2
      have HL9 := Lib.hid hl
      clear hl hk k0 k1
      go_wp2_with fail
      refine (curDoes_any _).mono ?_
      rintro e w10 ⟨rfl, hb⟩
      have Hb10 := Lib.hid (Hb1.out.trans (((Hb5.out.trans ((HL9.out.below.trans (hb.mono HL9.out.size)).mono Hb5.out.size))).mono Hb1.out.size))
      clear hb k2 k3
      go_wp2_with fail
      go_ret
      exact ⟨rfl, Hb10.out⟩
  case pos =>
    obtain ⟨t, ht, htd, hts⟩ := hem
    have hsv := tn_save 100 0 none none none [] a b (by omega) (fun _ e => by cases e) hm
    have hsv2 : ∃ d1, saveD (tn 100 0 false none none none []) a b = (0, d1) ∧ d1 = tn 100 0 false (some (Cur.enc a b).1) none none [] := by
      rcases hsv with ⟨fl', hf, h⟩ | ⟨hf, _⟩
      · exact ⟨_, h, by rw [hf rfl]⟩
      · exact absurd rfl hf
    obtain ⟨dd, hsv3, hdd⟩ := hsv2
    rw [hdd] at hsv3
    have Hsv := Lib.hid hsv3
    obtain ⟨D', hcr⟩ := tn_crash 100 0 (some (Cur.enc a b).1) none none [] keep
    have Hcr := Lib.hid hcr
    have Hld := Lib.hid (fun s => tn_load 100 s (some (Cur.enc a b).1) D' none [] (a, b) ⟨rfl, hm⟩)
    have hdt := fun W : World => decode_any t W hts
    rw [htd, show Cur.decR (Cur.enc a b).1 = ((a, b), 0) from by unfold Cur.decR; rw [Cur.dec_enc hm]] at hdt
    unfold curV at hdt
    have Hdt := Lib.hid hdt
    rw [← ht, show (Cur.enc a b).2 = 0 from by rw [Cur.enc_some hm]] at Hen
    clear hsv hsv3 hdd hcr hdt ht htd hts hm
    go_enter Try.func7, Try.ntmps7
    go_wp2_with fail
    rw [← HW1.out]
    go_wp2_with fail
    refine (Hen.out _).mono ?_
    rintro e w2 ⟨rfl, hb⟩
    have Hb2 := Lib.hid hb
    clear hb
    go_wp2_with fail
    refine (Hde.out _).mono ?_
    rintro e w3 ⟨rfl, hb⟩
    have Hb3 := Lib.hid (Hb2.out.trans (hb.mono Hb2.out.size))
    clear hb
    obtain ⟨w4, hw4⟩ : ∃ w4, w4 = w3.alloc (.cells #[.int .i64 d1, .int .i64 d2] 23 (0, 0)) := ⟨_, rfl⟩
    have Hb4 := Lib.hid (show Below w1.heap.size w1 w4 by rw [hw4]; exact Hb3.out.alloc Hb3.out.size _)
    have B4 := Lib.hid (show Blk w4 w3.heap.size 23 #[.int .i64 d1, .int .i64 d2] by rw [hw4]; exact Blk.alloc_new _ _ _)
    have HW4 := Lib.hid hw4
    clear hw4
    by_cases h3 : d3 = 0
    case' pos =>
      have hx := Hdq.out d1 d2 (by rw [h3])
      have hox : CurOk (d1, d2) := by obtain ⟨q1, q2, q3, q4⟩ := hx.2; exact ⟨by simp only; omega, by simp only; omega⟩
      have hen2 := fun W : World => encode_any d1 d2 W hox.1 hox.2
      rw [hx.1] at hen2
      have Hen2 := Lib.hid hen2
      have kk := blkc B4.out
      obtain ⟨k0, k1⟩ := kk
      rw [HW4.out] at k0 k1
      have hss : (⟨s.data.toList.toArray⟩ : ByteArray) = s := by simp
      rw [hss] at Hen2
      unfold curV at Hen2
      subst h3
      clear hx hox hen2 hss
      go_wp2_with fail
      rw [← HW4.out]
      refine (Hen2.out _).mono ?_
      rintro e w5 ⟨rfl, hb⟩
      have Hb5 := Lib.hid (Hb4.out.trans (hb.mono Hb4.out.size))
      clear hb k0 k1
    case' neg =>
      have q3 : (d3 == 0) = false := by rw [beq_eq_false_iff_ne]; exact h3
      have Hb5 := Lib.hid Hb4.out
      obtain ⟨w5, hw5⟩ : ∃ w5, w5 = w4 := ⟨_, rfl⟩
      rw [← hw5] at Hb5
      have HW5 := Lib.hid hw5
      clear hw5 h3
      go_wp2_with fail
      rw [← HW4.out, ← HW5.out]
    all_goals
      go_wp2_with fail
      refine (live_new 100 w5 (by omega) (by omega)).mono ?_
      rintro e w6 ⟨v, rfl, hl⟩
      obtain ⟨bd, rfl⟩ := hl.ptr
      rw [tn_new] at hl
      have H6 := Lib.hid hl
      have Hb6 := Lib.hid (Hb5.out.trans (hl.below.mono Hb5.out.size))
      clear hl
      go_wp2_with fail
      refine (Hdt.out _).mono ?_
      rintro e w7 ⟨rfl, hb⟩
      have Hb7 := Lib.hid (Hb6.out.trans (hb.mono Hb6.out.size))
      obtain ⟨w8, hw8⟩ : ∃ w8, w8 = w7.alloc (.cells #[.int .i64 a, .int .i64 b] 23 (0, 0)) := ⟨_, rfl⟩
      have hb78 : Below w7.heap.size w7 w8 := by rw [hw8]; exact (Below.refl _ _).alloc (Nat.le_refl _) _
      have Hb8 := Lib.hid (Hb7.out.trans (hb78.mono Hb7.out.size))
      have B8 : Blk w8 w7.heap.size 23 #[.int .i64 a, .int .i64 b] := by rw [hw8]; exact Blk.alloc_new _ _ _
      have H8 := Lib.hid ((H6.out.keep hb).keep hb78)
      obtain ⟨k0, k1⟩ := blkc (B1.out.below Hb8.out)
      obtain ⟨k2, k3⟩ := blkc B8
      rw [hw8] at k0 k1 k2 k3
      have HW8 := Lib.hid hw8
      have qa : (a == a) = true := by simp
      have qb : (b == b) = true := by simp
      clear hb hw8 hb78 B8
      go_wp2_with fail
      rw [← HW8.out]
      refine (H8.out.saveQ a b Hc.out Hsv.out).mono ?_
      rintro e w9 ⟨rfl, hl, hk⟩
      have H9 := Lib.hid hl
      clear hl hk k0 k1 k2 k3
      go_wp2_with fail
      have hka := (Hk.out.chg (Chg.of_below (Hb1.out.trans (((Hb5.out.trans (H9.out.below.mono Hb5.out.size))).mono Hb1.out.size)) (S := fun _ => False)) (fun _ e => e.elim)).mono (T := fun k => ¬ (fun _ => False) k ∧ w5.heap.size ≤ k) (fun k e => Nat.le_trans (Nat.le_trans Hb1.out.size Hb5.out.size) e.2)
      refine (H9.out.crashQ _ keep hka hkm2 Hcr.out).mono ?_
      rintro e w10 ⟨rfl, hl, hk⟩
      have H10 := Lib.hid hl
      clear hl hk hka
      go_wp2_with fail
      refine (H10.out.startQ (tn_start _ _ _ _ _ _)).mono ?_
      rintro e w11 ⟨rfl, hl, hk⟩
      have H11 := Lib.hid hl
      clear hl hk
      go_wp2_with fail
      refine (H11.out.loadQ (Hld.out _)).mono ?_
      rintro e w12 ⟨rfl, hb⟩
      have Hb12 := Lib.hid (Hb5.out.trans ((H11.out.below.trans (hb.mono H11.out.size)).mono Hb5.out.size))
      obtain ⟨w13, hw13⟩ : ∃ w13, w13 = w12.alloc (.cells #[.int .i64 a, .int .i64 b] 23 (0, 0)) := ⟨_, rfl⟩
      have Hb13 := Lib.hid (show Below w1.heap.size w1 w13 by rw [hw13]; exact Hb12.out.alloc Hb12.out.size _)
      obtain ⟨k0, k1⟩ := blkc (B1.out.below Hb13.out)
      obtain ⟨k2, k3⟩ := blkc (show Blk w13 w12.heap.size 23 #[.int .i64 a, .int .i64 b] by rw [hw13]; exact Blk.alloc_new _ _ _)
      rw [hw13] at k0 k1 k2 k3
      have HW13 := Lib.hid hw13
      clear hb hw13
      go_wp2_with fail
      rw [← HW13.out]
      refine (curDoes_any _).mono ?_
      rintro e w14 ⟨rfl, hb⟩
      have Hb14 := Lib.hid (Hb1.out.trans ((Hb13.out.trans (hb.mono Hb13.out.size)).mono Hb1.out.size))
      clear hb k0 k1 k2 k3
      go_wp2_with fail
      go_ret
      exact ⟨rfl, Hb14.out⟩
theorem walkCursorsBack (c : Int × Int) (s : ByteArray) (k : Value × List Int) (w : World) (h0 : CurOk c) (h1 : s.size ≤ maxLen) (h2 : KeepR w (fun k => w.heap.size ≤ k) k.1 k.2 ∧ k.2.length ≤ maxLen) :
    Calls Try.prog 7 #[curV c.1 c.2, .string s, k.1] w fun e w' => e = .returned (.bool true) ∧ Below w.heap.size w w' :=
  cursorsBack_any c.1 c.2 s k.1 k.2 w h0 h1 h2.1 h2.2
end Go.Proofs.Ytenbgfejonokdaa

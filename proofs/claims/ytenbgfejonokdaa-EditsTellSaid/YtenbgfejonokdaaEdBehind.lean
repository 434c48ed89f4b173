/- The state behind those of edits that may be done, walked. -/
import Derived.Test.YtenbgfejonokdaaEdLives
namespace Go.Proofs.Ytenbgfejonokdaa
set_option linter.unusedSimpArgs false
set_option linter.unusedVariables false
set_option maxRecDepth 100000
open Go.RowKit
attribute [local go_sem ↓] Go.wp_at_zero Go.wp_at_succ

/-- An edit that may be done is, another one is left out. -/
noncomputable def stepS (s : Ed.St) (e : Ed.Edit) : Ed.St := (Ed.applyP s e).getD s
noncomputable def behindP (l : List Ed.Edit) : Ed.St := l.foldl stepS st0
theorem stepS_valid {s : Ed.St} {e : Ed.Edit} (h : Ed.Valid s) : Ed.Valid (stepS s e) := by
  unfold stepS
  cases hq : Ed.applyP s e with
  | none => exact h
  | some s' => exact applyP_valid hq
theorem behind_step (l : List Ed.Edit) (k : Nat) (hk : k < l.length) : behindP (l.take (k + 1)) = stepS (behindP (l.take k)) l[k] := by
  unfold behindP
  rw [List.take_succ_eq_append_getElem hk, List.foldl_append]; rfl
theorem behind_valid (l : List Ed.Edit) : Ed.Valid (behindP l) := by
  unfold behindP
  have : ∀ (l : List Ed.Edit) (s : Ed.St), Ed.Valid s → Ed.Valid (l.foldl stepS s) := by
    intro l
    induction l with
    | nil => intro s h; exact h
    | cons e l ih => intro s h; exact ih _ (stepS_valid h)
  exact this l st0 valid0
/-- An edit's cells at a place of a slice that reads as edits, in a world that extends. -/
theorem RdE.at_ {w : World} {x : Option Addr} {c : Nat} {l : List Ed.Edit} (h : RdE w (.slice x l.length c) l) (k : Nat) (hk : k < l.length) : ∃ b off fv, x = some ⟨b, off, none⟩ ∧ b < w.heap.size ∧ RdI w fv l[k].files ∧
    ∀ W, Below w.heap.size w W → W.cell? ⟨b, off + k * 5, none⟩ = some (.int .i64 l[k].kind) ∧ W.cell? ⟨b, off + k * 5 + 1, none⟩ = some (.int .i64 l[k].at_) ∧ W.cell? ⟨b, off + k * 5 + 2, none⟩ = some (.int .i64 l[k].file) ∧ W.cell? ⟨b, off + k * 5 + 3, none⟩ = some fv ∧ W.cell? ⟨b, off + k * 5 + 4, none⟩ = some (.string l[k].key) := by
  obtain ⟨y, d, e, h⟩ := h
  injection e with e1 _ _
  obtain ⟨b, off, fv, h1, hb, c0, c1, c2, c3, c4, h2⟩ := h k hk
  exact ⟨b, off, fv, by rw [e1, h1], hb, h2, fun W x => ⟨(x.cell (p := ⟨b, _, none⟩) hb).trans c0, (x.cell (p := ⟨b, _, none⟩) hb).trans c1, (x.cell (p := ⟨b, _, none⟩) hb).trans c2, (x.cell (p := ⟨b, _, none⟩) hb).trans c3, (x.cell (p := ⟨b, _, none⟩) hb).trans c4⟩⟩
theorem stepS_any (tv : Value) (s : Ed.St) (e : Ed.Edit) (fv : Value) (w : World) (h : RdT w tv s.l) (hv : Ed.Valid s) (hfl : RdI w fv e.files) (hok : EdOk e) :
    Calls Try.prog 42 #[stV tv s.log s.next, edV e fv] w fun E w' => ∃ sx sn sc lg3 nx3 okb, E = .returned (.tuple #[stV (.slice sx sn sc) lg3 nx3, .bool okb]) ∧ Below w.heap.size w w' ∧ (okb = false → stepS s e = s) ∧
      (okb = true → ∃ l3, stepS s e = ⟨l3, lg3, nx3⟩ ∧ RdTB w' w.heap.size (.slice sx sn sc) l3) := by
  refine (apply_any tv s e fv w h (valid_fits hv) hfl hok.files hok.key hok.at_).mono ?_
  rintro E w' ⟨hb, hm⟩
  unfold stepS
  cases hr : Ed.applyP s e with
  | none => rw [hr] at hm; exact ⟨none, 0, 0, 0, 0, false, hm, hb, fun _ => rfl, fun h => (by cases h)⟩
  | some s2 =>
    rw [hr] at hm
    obtain ⟨t2, rfl, hrd⟩ := hm
    obtain ⟨x, c, rfl, _⟩ := id hrd
    exact ⟨x, _, c, s2.log, s2.next, true, rfl, hb, fun h => (by cases h), fun _ => ⟨s2.l, rfl, hrd⟩⟩
/-- The three cells of a state, and the five of an edit. -/
def S8 (W : World) (b0 : Nat) (v : Value) (log next : Int) (eb o : Nat) (kind at_ file : Int) (fv : Value) (key : ByteArray) : Prop :=
  (W.cell? ⟨b0, 0, none⟩ = some v ∧ W.cell? ⟨b0, 1, none⟩ = some (.int .i64 log) ∧ W.cell? ⟨b0, 2, none⟩ = some (.int .i64 next)) ∧
    W.cell? ⟨eb, o, none⟩ = some (.int .i64 kind) ∧ W.cell? ⟨eb, o + 1, none⟩ = some (.int .i64 at_) ∧ W.cell? ⟨eb, o + 2, none⟩ = some (.int .i64 file) ∧ W.cell? ⟨eb, o + 3, none⟩ = some fv ∧ W.cell? ⟨eb, o + 4, none⟩ = some (.string key)
theorem S8.below {W W' : World} {b0 : Nat} {v : Value} {log next : Int} {eb o : Nat} {kind at_ file : Int} {fv : Value} {key : ByteArray} (h : S8 W b0 v log next eb o kind at_ file fv key) (x : Below W.heap.size W W') (h0 : b0 < W.heap.size) (h1 : eb < W.heap.size) : S8 W' b0 v log next eb o kind at_ file fv key :=
  ⟨⟨(x.cell (p := ⟨b0, 0, none⟩) h0).trans h.1.1, (x.cell (p := ⟨b0, 1, none⟩) h0).trans h.1.2.1, (x.cell (p := ⟨b0, 2, none⟩) h0).trans h.1.2.2⟩, (x.cell (p := ⟨eb, _, none⟩) h1).trans h.2.1, (x.cell (p := ⟨eb, _, none⟩) h1).trans h.2.2.1, (x.cell (p := ⟨eb, _, none⟩) h1).trans h.2.2.2.1, (x.cell (p := ⟨eb, _, none⟩) h1).trans h.2.2.2.2.1, (x.cell (p := ⟨eb, _, none⟩) h1).trans h.2.2.2.2.2⟩
set_option maxHeartbeats 8000000 in
theorem behind_any (lv : Value) (l : List Ed.Edit) (w : World) (hl : RdE w lv l) (hll : l.length ≤ 1000) (hok : ∀ (j : Nat) (hj : j < l.length), EdOk l[j]) :
    Calls Try.prog 49 #[lv] w fun e w' => ∃ tv, e = .returned (stV tv (behindP l).log (behindP l).next) ∧ RdTB w' w.heap.size tv (behindP l).l ∧ Below w.heap.size w w' := by
  obtain ⟨lx, lc, rfl, _⟩ := id hl
  have HL := Lib.hid hl
  have HOK := Lib.hid hok
  obtain ⟨n, hn⟩ : ∃ n, n = l.length := ⟨_, rfl⟩
  rw [← hn] at hll HL ⊢
  have Hn := Lib.hid hn
  clear hl hok hn
  go_enter Try.func49, Try.ntmps49
  go_wp2_with fail
  obtain ⟨w1, hw1⟩ : ∃ w1, w1 = w.alloc (.cells #[.slice none 0 0, .int .i64 0, .int .i64 0] 67 (0, 0)) := ⟨_, rfl⟩
  rw [← hw1]
  have K2 := Lib.hid (show Blk w1 w.heap.size 67 #[.slice none 0 0, .int .i64 0, .int .i64 0] by rw [hw1]; exact Blk.alloc_new _ _ _)
  have HB1 := Lib.hid (show Below w.heap.size w w1 by rw [hw1]; exact (Below.refl _ _).alloc (Nat.le_refl _) _)
  have Hz1 := Lib.hid (show w1.heap.size = w.heap.size + 1 by rw [hw1]; simp)
  clear hw1
  refine (first_any w1).mono ?_
  rintro e w2 ⟨tv, rfl, hrd, hb2⟩
  obtain ⟨x1, c1, rfl, _⟩ := hrd.rd
  have K22 := Lib.hid (K2.out.below hb2)
  have HB2 := Lib.hid (HB1.out.trans (hb2.mono HB1.out.size))
  have HR2 := Lib.hid hrd
  have hl1 : st0.l.length = 1 := rfl
  rw [hl1] at HR2 ⊢
  unfold stV
  clear hrd hb2 hl1
  go_wp2_with fail
  obtain ⟨w3, hw3⟩ : ∃ w3, w3 = w2.alloc (.cells #[.slice x1 1 c1, .int .i64 1, .int .i64 2] 67 (0, 0)) := ⟨_, rfl⟩
  rw [← hw3]
  obtain ⟨b3, hb3⟩ : ∃ b3, b3 = w2.heap.size := ⟨_, rfl⟩
  have hb23 : Below w2.heap.size w2 w3 := by rw [hw3]; exact (Below.refl _ _).alloc (Nat.le_refl _) _
  have K33 := Lib.hid (show Blk w3 b3 67 #[.slice x1 1 c1, .int .i64 1, .int .i64 2] by rw [hb3, hw3]; exact Blk.alloc_new _ _ _)
  have K23 := Lib.hid (K22.out.below hb23)
  have HB3 := Lib.hid (HB2.out.trans (hb23.mono HB2.out.size))
  have HR3 := Lib.hid (HR2.out.chg (S := fun _ => False) (Chg.of_below hb23) (fun _ h => h.elim))
  have hb3l : w.heap.size < b3 := by rw [hb3]; exact K22.out.lt
  rw [← hb3]
  clear hw3 hb23 hb3
  go_loopw [4, 5, 6, 14] (fun v4 _ _ _ wr => ∃ (k : Nat) (tv : Value) (st : Ed.St), v4 = .int .i64 k ∧ k ≤ n ∧ st = behindP (l.take k) ∧ Below w.heap.size w wr ∧ Blk wr w.heap.size 67 #[.slice none 0 0, .int .i64 0, .int .i64 0] ∧ Blk wr b3 67 #[tv, .int .i64 st.log, .int .i64 st.next] ∧ RdTB wr (w.heap.size + 1) tv st.l) (fun v4 _ _ _ _ => n - (intOf v4).toNat)
  case atStart => exact ⟨0, _, st0, rfl, Nat.zero_le _, rfl, HB3.out, K23.out, K33.out, HR3.out.weak (by rw [Hz1.out]; exact Nat.le_refl _)⟩
  case round =>
    obtain ⟨k, tv, st, rfl, hk, hst, hbe, hk2, hk3, hrd⟩ := hrel
    have Hst := Lib.hid hst
    have Hbe := Lib.hid hbe
    have Hk2 := Lib.hid hk2
    have Hk3 := Lib.hid hk3
    have Hrd := Lib.hid hrd
    have Hv := Lib.hid (show Ed.Valid st by rw [hst]; exact behind_valid _)
    obtain ⟨tx, tc, htv, _⟩ := hrd.rd
    obtain ⟨tn, htn⟩ : ∃ tn, tn = st.l.length := ⟨_, rfl⟩
    rw [← htn] at htv
    have HTN := Lib.hid htn
    subst htv
    obtain ⟨sl, log, next⟩ := st
    simp only at Hk3 Hrd
    obtain ⟨a0, a1, a2, g0, g1, g2⟩ := blk3 Hk3.out
    clear hst hbe hk2 hk3 hrd htn
    by_cases hlt : k < n
    · have hkl : k < l.length := by rw [← Hn.out]; exact hlt
      have hll2 := HL.out
      rw [Hn.out] at hll2
      obtain ⟨eb, eo, fv, rfl, heb, hfl, hcell⟩ := hll2.at_ k hkl
      obtain ⟨e, he⟩ : ∃ e, e = l[k] := ⟨_, rfl⟩
      have hok := HOK.out k hkl
      rw [← he] at hfl hcell hok
      have HE := Lib.hid he
      obtain ⟨fx, fc, hfv, _⟩ := hfl.form
      obtain ⟨fn, hfn⟩ : ∃ fn, fn = e.files.length := ⟨_, rfl⟩
      rw [← hfn] at hfv
      subst hfv
      have HFL := Lib.hid hfl
      have HOKk := Lib.hid hok
      have HCL := Lib.hid hcell
      have HFN := Lib.hid hfn
      obtain ⟨kind, at_, file, files, key⟩ := e
      simp only at HFL HOKk HCL HFN
      have hk0 : (0 : Int) ≤ k := by omega
      have hkn : (k : Int) < n := by omega
      have Hlt := Lib.hid hlt
      clear he hfn hfl hok hcell hll2
      go_wp2_with fail
      refine wp_region_two (T := fun _ => True) (S := fun W => S8 W b3 (.slice tx tn tc) log next eb (eo + k * 5) kind at_ file (.slice fx fn fc) key) (n := 10) (by kernel_rfl) ?_
      obtain ⟨w5, hw5⟩ : ∃ w5, w5 = wr.drew := ⟨_, rfl⟩
      rw [← hw5]
      have hb5 : Below wr.heap.size wr w5 := by rw [hw5]; exact (Below.refl _ _).drew
      have HB5 := Lib.hid (Hbe.out.trans (hb5.mono Hbe.out.size))
      have hT : True := trivial
      have hS : S8 w5 b3 (.slice tx tn tc) log next eb (eo + k * 5) kind at_ file (.slice fx fn fc) key := ⟨by rw [hw5]; exact ⟨a0, a1, a2⟩, HCL.out w5 HB5.out⟩
      have hl0 : b3 < w5.heap.size := (Hk3.out.below hb5).lt
      have hl1 : eb < w5.heap.size := by have := HB5.out.size; omega
      have Hk25 := Lib.hid (Hk2.out.below hb5)
      have Hk35 := Lib.hid (Hk3.out.below hb5)
      have Hrd5 := Lib.hid (Hrd.out.chg (S := fun _ => False) (Chg.of_below hb5) (fun _ h => h.elim))
      have HAP := Lib.hid (fun (W : World) (hW : Below w5.heap.size w5 W) => stepS_any (.slice tx tn tc) ⟨sl, log, next⟩ ⟨kind, at_, file, files, key⟩ (.slice fx fn fc) W (Hrd5.out.rd.below hW) Hv.out (HFL.out.below (HB5.out.trans (hW.mono HB5.out.size))) HOKk.out)
      unfold edV stV at HAP
      simp only at HAP
      have hS8 := hS
      have hb35 : w.heap.size + 1 ≤ w5.heap.size := by omega
      have HKL := Lib.hid hkl
      unfold S8 at hS
      obtain ⟨⟨s0, s1, s2⟩, s3, s4, s5, s6, s7⟩ := id hS
      clear hw5 hb5 a0 a1 a2 g0 g1 g2
      refine two_take 0 (some 15) (v := ?_) rfl rfl (by kernel_rfl) (by kernel_rfl) (by kernel_rfl) (by kernel_rfl) (by decide) (by kernel_rfl) (fun _ _ _ h => h) (Or.inl ⟨by rfl, ?hy0⟩) hT hS ?_
      case hy0 => (intro w' hS'; (try unfold S8 at hS'); go_simp; (try with_reducible rfl))
      try simp only [Act.put, List.setIfInBounds_toArray, List.set_cons_zero, List.set_cons_succ]
      refine two_takeT 1 (some 16) (v := ?_) rfl rfl (by kernel_rfl) (by kernel_rfl) (by kernel_rfl) (by decide) (fun _ _ _ h => h) (Or.inl ⟨by rfl, ?hy1⟩) hT hS ?_
      case hy1 => (intro w' hT'; go_simp; (try with_reducible rfl))
      try simp only [Act.put, List.setIfInBounds_toArray, List.set_cons_zero, List.set_cons_succ]
      refine two_takeT 2 (some 17) (v := ?_) rfl rfl (by kernel_rfl) (by kernel_rfl) (by kernel_rfl) (by decide) (fun _ _ _ h => h) (Or.inl ⟨by rfl, ?hy2⟩) hT hS ?_
      case hy2 => (intro w' hT'; go_simp; (try with_reducible rfl))
      try simp only [Act.put, List.setIfInBounds_toArray, List.set_cons_zero, List.set_cons_succ]
      refine two_takeT 3 (some 18) (v := ?_) rfl rfl (by kernel_rfl) (by kernel_rfl) (by kernel_rfl) (by decide) (fun _ _ _ h => h) (Or.inl ⟨by rfl, ?hy3⟩) hT hS ?_
      case hy3 => (intro w' hT'; go_simp; (try with_reducible rfl))
      try simp only [Act.put, List.setIfInBounds_toArray, List.set_cons_zero, List.set_cons_succ]
      refine two_take 4 (some 19) (v := ?_) rfl rfl (by kernel_rfl) (by kernel_rfl) (by kernel_rfl) (by kernel_rfl) (by decide) (by kernel_rfl) (fun _ _ _ h => h) (Or.inl ⟨by rfl, ?hy4⟩) hT hS ?_
      case hy4 => (intro w' hS'; (try unfold S8 at hS'); go_simp; (try with_reducible rfl))
      try simp only [Act.put, List.setIfInBounds_toArray, List.set_cons_zero, List.set_cons_succ]
      refine two_two 5 9 rfl rfl (by kernel_rfl) ?_ ?_
      · intro K hK
        go_simp
        refine (HAP.out w5 (Below.refl _ _)).mono ?_
        rintro e w6 ⟨sx, sn, sc, lg3, nx3, okb, rfl, hb6, hf6, ht6⟩
        have HF := Lib.hid hf6
        have HT6 := Lib.hid ht6
        have hS6 : S8 w6 b3 (.slice tx tn tc) log next eb (eo + k * 5) kind at_ file (.slice fx fn fc) key := S8.below hS8 hb6 hl0 hl1
        have hsz6 := hb6.size
        clear hf6 ht6
        refine hK.out _ _ trivial (fun _ _ => hS6) ?_
        clear hK K hS
        have hS := hS6
        try simp only [Act.put, List.setIfInBounds_toArray, List.set_cons_zero, List.set_cons_succ]
        refine two_takeT 6 (some 14) (v := ?_) rfl rfl (by kernel_rfl) (by kernel_rfl) (by kernel_rfl) (by decide) (fun _ _ _ h => h) (Or.inl ⟨by rfl, ?hy6⟩) hT hS ?_
        case hy6 => (intro w' hT'; go_simp; (try with_reducible rfl))
        try simp only [Act.put, List.setIfInBounds_toArray, List.set_cons_zero, List.set_cons_succ]
        refine two_takeT 7 (some 21) (v := ?_) rfl rfl (by kernel_rfl) (by kernel_rfl) (by kernel_rfl) (by decide) (fun _ _ _ h => h) (Or.inl ⟨by rfl, ?hy7⟩) hT hS ?_
        case hy7 => (intro w' hT'; go_simp; (try with_reducible rfl))
        try simp only [Act.put, List.setIfInBounds_toArray, List.set_cons_zero, List.set_cons_succ]
        refine two_takeT 8 (some 22) (v := ?_) rfl rfl (by kernel_rfl) (by kernel_rfl) (by kernel_rfl) (by decide) (fun _ _ _ h => h) (Or.inl ⟨by rfl, ?hy8⟩) hT hS ?_
        case hy8 => (intro w' hT'; go_simp; (try with_reducible rfl))
        try simp only [Act.put, List.setIfInBounds_toArray, List.set_cons_zero, List.set_cons_succ]
        refine two_one 9 rfl (by kernel_rfl) ?_
        intro K hK
        go_simp
        obtain ⟨w7, hw7⟩ : ∃ w7, w7 = w6.alloc (.cells #[.slice none 0 0, .int .i64 0, .int .i64 0] 67 (0, 0)) := ⟨_, rfl⟩
        rw [← hw7]
        obtain ⟨q, hq⟩ : ∃ q, q = w6.heap.size := ⟨_, rfl⟩
        rw [← hq]
        have hb7 : Below w6.heap.size w6 w7 := by rw [hw7]; exact (Below.refl _ _).alloc (Nat.le_refl _) _
        have hbq : Blk w7 q 67 #[.slice none 0 0, .int .i64 0, .int .i64 0] := by rw [hq, hw7]; exact Blk.alloc_new _ _ _
        have hlq : b3 < q := by omega
        have hqq := Nat.le_of_eq hq.symm
        clear hq
        have hS7 : S8 w7 b3 (.slice tx tn tc) log next eb (eo + k * 5) kind at_ file (.slice fx fn fc) key := S8.below hS6 hb7 (by omega) (by omega)
        refine hK.out _ _ trivial (fun _ _ => hS7) ?_
        clear hK K hS hS6 hw7
        try simp only [Act.put, List.setIfInBounds_toArray, List.set_cons_zero, List.set_cons_succ]
        obtain ⟨_, _, _, g0, g1, g2⟩ := blk3 hbq
        refine two_one 10 rfl (by kernel_rfl) ?_
        intro K hK
        go_simp
        obtain ⟨w9, hw9⟩ : ∃ w9, w9 = ((w7.setCell ⟨q, 0, none⟩ (.slice sx sn sc)).setCell ⟨q, 1, none⟩ (.int .i64 lg3)).setCell ⟨q, 2, none⟩ (.int .i64 nx3) := ⟨_, rfl⟩
        rw [← hw9]
        obtain ⟨z1, z2⟩ := three_set hbq w9 hw9
        have KQ := Lib.hid z1
        have hb69 := hb7.trans (z2.below hb7.size fun g hg e => by omega)
        have Hb59 := Lib.hid (hb6.trans (hb69.mono hsz6))
        have HTR := Lib.hid (show okb = true → ∃ l3, stepS ⟨sl, log, next⟩ ⟨kind, at_, file, files, key⟩ = ⟨l3, lg3, nx3⟩ ∧ RdTB w9 (b3 + 1) (.slice sx sn sc) l3 from fun h => (HT6.out h).imp fun l3 h3 => ⟨h3.1, (h3.2.chg (S := fun _ => False) (Chg.of_below hb69) (fun _ h => h.elim)).weak (show b3 + 1 ≤ _ by omega)⟩)
        have Hsm := Lib.hid hlq
        clear hw9 hbq g0 g1 g2 hS7 hb6 hb7 hb69 z1 z2
        refine hK.out _ _ trivial (fun _ e => absurd rfl e) ?_
        clear hK K
        try simp only [Act.put, List.setIfInBounds_toArray, List.set_cons_zero, List.set_cons_succ]
        refine two_one 11 rfl (by kernel_rfl) ?_
        intro K hK
        go_simp
        refine hK.out _ _ trivial (fun e _ => two_past e (by kernel_rfl)) ?_
        clear hK K
        try simp only [Act.put, List.setIfInBounds_toArray, List.set_cons_zero, List.set_cons_succ]
        refine two_done (by kernel_rfl) ?_ _
        obtain ⟨ga, gb, gc, _⟩ := blk3 KQ.out
        have HB9 := Lib.hid (HB5.out.trans (Hb59.out.mono HB5.out.size))
        have Hk29 := Lib.hid (Hk25.out.below Hb59.out)
        have Hk39 := Lib.hid (Hk35.out.below Hb59.out)
        have Hrd9 := Lib.hid (Hrd5.out.chg (S := fun _ => False) (Chg.of_below Hb59.out) (fun _ h => h.elim))
        cases okb with
        | false =>
          go_wp2_with fail
          go_roundw
          case rel => exact ⟨k + 1, _, ⟨sl, log, next⟩, by go_num, by have := Hlt.out; omega, by rw [behind_step l k HKL.out, ← Hst.out, ← HE.out, HF.out rfl], HB9.out, Hk29.out, Hk39.out, by have := Hrd9.out; exact this⟩
          case measure => simp [intOf]; omega
        | true =>
          obtain ⟨l3, hl3, hrd3⟩ := HTR.out rfl
          have HL3 := Lib.hid hl3
          have HRD3 := Lib.hid hrd3
          clear hl3 hrd3
          obtain ⟨_, _, _, g0, g1, g2⟩ := blk3 Hk39.out
          go_wp2_with fail
          obtain ⟨w10, hw10⟩ : ∃ w10, w10 = ((w9.setCell ⟨b3, 0, none⟩ (.slice sx sn sc)).setCell ⟨b3, 1, none⟩ (.int .i64 lg3)).setCell ⟨b3, 2, none⟩ (.int .i64 nx3) := ⟨_, rfl⟩
          rw [← hw10]
          obtain ⟨z1, z2⟩ := three_set Hk39.out w10 hw10
          have HK10 := Lib.hid z1
          have HZ10 := Lib.hid (Hk29.out.chg z2 (by omega))
          have HB10 := Lib.hid (HB9.out.trans (z2.below HB9.out.size fun g hg e => by omega))
          have HR10 := Lib.hid (HRD3.out.chg z2 (fun g e => by omega))
          clear hw10 z1 z2 g0 g1 g2 ga gb gc
          go_roundw
          case rel => exact ⟨k + 1, _, ⟨l3, lg3, nx3⟩, by go_num, by have := Hlt.out; omega, by rw [behind_step l k HKL.out, ← Hst.out, ← HE.out, HL3.out], HB10.out, HZ10.out, HK10.out, HR10.out.weak (by omega)⟩
          case measure => simp [intOf]; omega
      · intro K hK
        go_simp
        obtain ⟨w6, hw6⟩ : ∃ w6, w6 = w5.alloc (.cells #[.slice none 0 0, .int .i64 0, .int .i64 0] 67 (0, 0)) := ⟨_, rfl⟩
        rw [← hw6]
        obtain ⟨q, hq⟩ : ∃ q, q = w5.heap.size := ⟨_, rfl⟩
        rw [← hq]
        have hb6 : Below w5.heap.size w5 w6 := by rw [hw6]; exact (Below.refl _ _).alloc (Nat.le_refl _) _
        have hbq : Blk w6 q 67 #[.slice none 0 0, .int .i64 0, .int .i64 0] := by rw [hq, hw6]; exact Blk.alloc_new _ _ _
        have hlq : b3 < q := by omega
        have hqq := Nat.le_of_eq hq.symm
        clear hq
        have hqlt := hbq.lt
        have hS6 : S8 w6 b3 (.slice tx tn tc) log next eb (eo + k * 5) kind at_ file (.slice fx fn fc) key := S8.below hS8 hb6 hl0 hl1
        refine hK.out _ _ trivial (fun _ _ => hS6) ?_
        clear hK K hS hw6
        try simp only [Act.put, List.setIfInBounds_toArray, List.set_cons_zero, List.set_cons_succ]
        refine two_one 5 rfl (by kernel_rfl) ?_
        intro K hK
        go_simp
        refine (HAP.out w6 hb6).mono ?_
        rintro e w7 ⟨sx, sn, sc, lg3, nx3, okb, rfl, hb7, hf6, ht6⟩
        have HF := Lib.hid hf6
        have HT6 := Lib.hid ht6
        have hS7 : S8 w7 b3 (.slice tx tn tc) log next eb (eo + k * 5) kind at_ file (.slice fx fn fc) key := S8.below hS6 hb7 (by have := hb6.size; omega) (by have := hb6.size; omega)
        have hbq7 := hbq.below hb7
        clear hf6 ht6
        refine hK.out _ _ trivial (fun _ _ => hS7) ?_
        clear hK K hbq
        have hS := hS7
        try simp only [Act.put, List.setIfInBounds_toArray, List.set_cons_zero, List.set_cons_succ]
        refine two_takeT 6 (some 14) (v := ?_) rfl rfl (by kernel_rfl) (by kernel_rfl) (by kernel_rfl) (by decide) (fun _ _ _ h => h) (Or.inl ⟨by rfl, ?hy6⟩) hT hS ?_
        case hy6 => (intro w' hT'; go_simp; (try with_reducible rfl))
        try simp only [Act.put, List.setIfInBounds_toArray, List.set_cons_zero, List.set_cons_succ]
        refine two_takeT 7 (some 21) (v := ?_) rfl rfl (by kernel_rfl) (by kernel_rfl) (by kernel_rfl) (by decide) (fun _ _ _ h => h) (Or.inl ⟨by rfl, ?hy7⟩) hT hS ?_
        case hy7 => (intro w' hT'; go_simp; (try with_reducible rfl))
        try simp only [Act.put, List.setIfInBounds_toArray, List.set_cons_zero, List.set_cons_succ]
        refine two_takeT 8 (some 22) (v := ?_) rfl rfl (by kernel_rfl) (by kernel_rfl) (by kernel_rfl) (by decide) (fun _ _ _ h => h) (Or.inl ⟨by rfl, ?hy8⟩) hT hS ?_
        case hy8 => (intro w' hT'; go_simp; (try with_reducible rfl))
        try simp only [Act.put, List.setIfInBounds_toArray, List.set_cons_zero, List.set_cons_succ]
        obtain ⟨_, _, _, g0, g1, g2⟩ := blk3 hbq7
        refine two_one 10 rfl (by kernel_rfl) ?_
        intro K hK
        go_simp
        obtain ⟨w9, hw9⟩ : ∃ w9, w9 = ((w7.setCell ⟨q, 0, none⟩ (.slice sx sn sc)).setCell ⟨q, 1, none⟩ (.int .i64 lg3)).setCell ⟨q, 2, none⟩ (.int .i64 nx3) := ⟨_, rfl⟩
        rw [← hw9]
        obtain ⟨z1, z2⟩ := three_set hbq7 w9 hw9
        have KQ := Lib.hid z1
        have hb57 := hb6.trans (hb7.mono hb6.size)
        have Hb59 := Lib.hid (hb57.trans (z2.below hb57.size fun g hg e => by omega))
        have HTR := Lib.hid (show okb = true → ∃ l3, stepS ⟨sl, log, next⟩ ⟨kind, at_, file, files, key⟩ = ⟨l3, lg3, nx3⟩ ∧ RdTB w9 (b3 + 1) (.slice sx sn sc) l3 from fun h => (HT6.out h).imp fun l3 h3 => ⟨h3.1, (h3.2.chg z2 (fun g e => by omega)).weak (show b3 + 1 ≤ _ by omega)⟩)
        clear hw9 hbq7 g0 g1 g2 hS7 hS6 hS hb6 hb7 hb57 z1 z2
        refine hK.out _ _ trivial (fun _ e => absurd rfl e) ?_
        clear hK K
        try simp only [Act.put, List.setIfInBounds_toArray, List.set_cons_zero, List.set_cons_succ]
        refine two_one 11 rfl (by kernel_rfl) ?_
        intro K hK
        go_simp
        refine hK.out _ _ trivial (fun e _ => two_past e (by kernel_rfl)) ?_
        clear hK K
        try simp only [Act.put, List.setIfInBounds_toArray, List.set_cons_zero, List.set_cons_succ]
        refine two_done (by kernel_rfl) ?_ _
        obtain ⟨ga, gb, gc, _⟩ := blk3 KQ.out
        have HB9 := Lib.hid (HB5.out.trans (Hb59.out.mono HB5.out.size))
        have Hk29 := Lib.hid (Hk25.out.below Hb59.out)
        have Hk39 := Lib.hid (Hk35.out.below Hb59.out)
        have Hrd9 := Lib.hid (Hrd5.out.chg (S := fun _ => False) (Chg.of_below Hb59.out) (fun _ h => h.elim))
        cases okb with
        | false =>
          go_wp2_with fail
          go_roundw
          case rel => exact ⟨k + 1, _, ⟨sl, log, next⟩, by go_num, by have := Hlt.out; omega, by rw [behind_step l k HKL.out, ← Hst.out, ← HE.out, HF.out rfl], HB9.out, Hk29.out, Hk39.out, by have := Hrd9.out; exact this⟩
          case measure => simp [intOf]; omega
        | true =>
          obtain ⟨l3, hl3, hrd3⟩ := HTR.out rfl
          have HL3 := Lib.hid hl3
          have HRD3 := Lib.hid hrd3
          clear hl3 hrd3
          obtain ⟨_, _, _, g0, g1, g2⟩ := blk3 Hk39.out
          go_wp2_with fail
          obtain ⟨w10, hw10⟩ : ∃ w10, w10 = ((w9.setCell ⟨b3, 0, none⟩ (.slice sx sn sc)).setCell ⟨b3, 1, none⟩ (.int .i64 lg3)).setCell ⟨b3, 2, none⟩ (.int .i64 nx3) := ⟨_, rfl⟩
          rw [← hw10]
          obtain ⟨z1, z2⟩ := three_set Hk39.out w10 hw10
          have HK10 := Lib.hid z1
          have HZ10 := Lib.hid (Hk29.out.chg z2 (by omega))
          have HB10 := Lib.hid (HB9.out.trans (z2.below HB9.out.size fun g hg e => by omega))
          have HR10 := Lib.hid (HRD3.out.chg z2 (fun g e => by omega))
          clear hw10 z1 z2 g0 g1 g2 ga gb gc
          go_roundw
          case rel => exact ⟨k + 1, _, ⟨l3, lg3, nx3⟩, by go_num, by have := Hlt.out; omega, by rw [behind_step l k HKL.out, ← Hst.out, ← HE.out, HL3.out], HB10.out, HZ10.out, HK10.out, HR10.out.weak (by omega)⟩
          case measure => simp [intOf]; omega
    · obtain rfl : k = n := by omega
      obtain ⟨_, _, _, g3, g4, g5⟩ := blk3 Hk2.out
      go_wp2_with fail
      obtain ⟨w5, hw5⟩ : ∃ w5, w5 = ((wr.setCell ⟨w.heap.size, 0, none⟩ (.slice tx tn tc)).setCell ⟨w.heap.size, 1, none⟩ (.int .i64 log)).setCell ⟨w.heap.size, 2, none⟩ (.int .i64 next) := ⟨_, rfl⟩
      rw [← hw5]
      obtain ⟨z1, z2⟩ := three_set Hk2.out w5 hw5
      obtain ⟨k0, k1, k2, _⟩ := blk3 z1
      have hB5 : Below w.heap.size w w5 := Hbe.out.trans (z2.below Hbe.out.size fun g hg e => by omega)
      have hfin := Hrd.out.chg z2 (fun g e => by omega)
      have hst : behindP l = ⟨sl, log, next⟩ := by rw [Hst.out, Hn.out, List.take_length]
      clear hw5 z1 z2 a0 a1 a2 g0 g1 g2 g3 g4 g5
      refine bodyPost_ret (v := stV (.slice tx tn tc) log next) (by unfold stV; simp [results, Try.results49, go_sem, k0, k1, k2]) rfl ⟨.slice tx tn tc, ?_⟩
      rw [hst]
      exact ⟨rfl, hfin.weak (by omega), hB5⟩
end Go.Proofs.Ytenbgfejonokdaa

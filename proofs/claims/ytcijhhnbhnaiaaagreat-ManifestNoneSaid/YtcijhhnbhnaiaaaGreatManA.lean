/- A manifest in memory: its block, its rows; why it does nothing, and what it says: walked. A manifest's file written anew: walked. -/
import Derived.Test.YtcijhhnbhnaiaaaGreatEdAll
import Derived.Test.YtcijhhnbhnaiaaaGreatEdRest
import Derived.Test.YtcijhhnbhnaiaaaGreatEdRead
import Derived.Test.YtcijhhnbhnaiaaaGreatLiveM
import Derived.Test.YtcijhhnbhnaiaaaGreatDiskNil
import Derived.Test.YtcijhhnbhnaiaaaGreatEdEnc3
import Derived.Test.YtcijhhnbhnaiaaaGreatFrames
namespace Go.Proofs.YtcijhhnbhnaiaaaGreat
set_option linter.unusedSimpArgs false
set_option linter.unusedVariables false
set_option maxRecDepth 100000
open Go.RowKit Go.Maps
open Dsk

/-- A state's rows, read while the blocks of Z are kept. -/
def RdX (w : World) (Z : Nat → Prop) (v : Value) (l : List Ed.Tab) : Prop := ∀ (S : Nat → Prop) (w' : World), Chg S w w' → (∀ k, Z k → ¬ S k) → RdT w' v l
section
variable {w0 w w' : World} {X Z Y S : Nat → Prop} {v tv : Value} {l : List Ed.Tab} {d : Dk} {m : Nat} {st size : Int} {bad : Bool} {s : Ed.St}
theorem RdX.rd (h : RdX w Z v l) : RdT w v l := h (fun _ => False) w (Chg.refl _ _) (fun _ _ e => e)
theorem RdX.chg (h : RdX w Z v l) (x : Chg S w w') (hS : ∀ k, Z k → ¬ S k) : RdX w' Z v l :=
  fun S' w'' x' hS' => h (fun k => S k ∨ S' k) w'' ((x.mono fun _ _ e => .inl e).trans (x'.mono fun _ _ e => .inr e)) (fun k hk e => e.elim (hS k hk) (hS' k hk))
theorem RdX.below (h : RdX w Z v l) (x : Below w.heap.size w w') : RdX w' Z v l := h.chg (S := fun _ => False) (Chg.of_below x) (fun _ _ e => e)
theorem RdX.weak (h : RdX w Z v l) (hZ : ∀ k, Z k → Y k) : RdX w Y v l := fun S w' x hS => h S w' x fun k hk => hS k (hZ k hk)
theorem RdX.keeps (h : RdX w Z v l) (x : Keeps X w w') (hZ : ∀ k, Z k → X k) : RdX w' Z v l := h.chg x fun k hk e => e (hZ k hk)
theorem RdTB.rdx {B : Nat} (h : RdTB w B v l) : RdX w (fun k => B ≤ k ∧ k < w.heap.size) v l := fun S w' x hS =>
  (h.chg (S := fun k => S k ∧ k < w.heap.size) (x.mono fun k hk e => ⟨e, hk⟩) (fun g hg => by
    by_cases hB : B ≤ g
    · exact absurd hg.1 (hS g ⟨hB, hg.2⟩)
    · omega)).rd
theorem Live.chg (h : Live w0 X w v d) (x : Chg S w w') (hX : ∀ k, S k → X k ∧ w0.heap.size ≤ k) : Live w0 X w' v d := by
  obtain ⟨F, h1, h2, h3, h4⟩ := h
  exact ⟨F, h1.chg x (fun k hk hs => (h2 k hk).2 (hX k hs).1), h2, fun k hk => Nat.lt_of_lt_of_le (h3 k hk) x.size, h4.trans (x.below h4.size (fun k hk hs => by have := (hX k hs).2; omega))⟩
/-- m is the manifest of the disk v, which is d; its rows lie in blocks of X. -/
structure MS (w0 : World) (X : Nat → Prop) (w : World) (v : Value) (d : Dk) (m : Nat) (st : Int) (bad : Bool) (tv : Value) (s : Ed.St) (size : Int) : Prop where
  live : Live w0 X w v d
  blk : Blk w m 35 #[v, .int .i64 st, .bool bad, tv, .int .i64 s.log, .int .i64 s.next, .int .i64 size]
  inX : X m
  new : w0.heap.size ≤ m
  rows : RdX w (fun k => X k ∧ k ≠ m) tv s.l
theorem MS.below (h : MS w0 X w v d m st bad tv s size) (x : Below w.heap.size w w') : MS w0 X w' v d m st bad tv s size :=
  ⟨h.live.keep x, h.blk.below x, h.inX, h.new, h.rows.below x⟩
/-- The disk has turned. -/
theorem MS.turn {d' : Dk} (h : MS w0 X w v d m st bad tv s size) (hl : Live w0 X w' v d') (x : Keeps X w w') : MS w0 X w' v d' m st bad tv s size :=
  ⟨hl, h.blk.chg x (fun e => e h.inX), h.inX, h.new, h.rows.keeps x (fun _ e => e.1)⟩
/-- What was made since is to be kept. -/
theorem MS.add (h : MS w0 X w v d m st bad tv s size) (x : Below w.heap.size w w') : MS w0 (Also X w w') w' v d m st bad tv s size :=
  ⟨h.live.add x, h.blk.below x, .inl h.inX, h.new, (h.rows.below x).weak fun _ e => ⟨.inl e.1, e.2⟩⟩
/-- Its own cells have turned. -/
theorem MS.own {st' size' : Int} {bad' : Bool} {tv' : Value} {s' : Ed.St} (h : MS w0 X w v d m st bad tv s size) (x : Chg (fun g => g = m) w w')
    (hb : Blk w' m 35 #[v, .int .i64 st', .bool bad', tv', .int .i64 s'.log, .int .i64 s'.next, .int .i64 size']) (hr : RdX w' (fun k => X k ∧ k ≠ m) tv' s'.l) : MS w0 X w' v d m st' bad' tv' s' size' :=
  ⟨h.live.chg x (fun k e => by have e : k = m := e; subst e; exact ⟨h.inX, h.new⟩), hb, h.inX, h.new, hr⟩
theorem blk7 {t : TypeId} {a b c e f g i : Value} (h : Blk w m t #[a, b, c, e, f, g, i]) :
    (w.cell? ⟨m, 0, none⟩ = some a ∧ w.cell? ⟨m, 1, none⟩ = some b ∧ w.cell? ⟨m, 2, none⟩ = some c ∧ w.cell? ⟨m, 3, none⟩ = some e ∧ w.cell? ⟨m, 4, none⟩ = some f ∧ w.cell? ⟨m, 5, none⟩ = some g ∧ w.cell? ⟨m, 6, none⟩ = some i) :=
  ⟨h.cell 0, h.cell 1, h.cell 2, h.cell 3, h.cell 4, h.cell 5, h.cell 6⟩
theorem blk7f {t : TypeId} {a b c e f g i : Value} (h : Blk w m t #[a, b, c, e, f, g, i]) :
    (w.frozen? ⟨m, 0, none⟩ = false ∧ w.frozen? ⟨m, 1, none⟩ = false ∧ w.frozen? ⟨m, 2, none⟩ = false ∧ w.frozen? ⟨m, 3, none⟩ = false ∧ w.frozen? ⟨m, 4, none⟩ = false ∧ w.frozen? ⟨m, 5, none⟩ = false ∧ w.frozen? ⟨m, 6, none⟩ = false) :=
  ⟨h.free 0, h.free 1, h.free 2, h.free 3, h.free 4, h.free 5, h.free 6⟩
theorem below_drewN (w : World) (n : Nat) : Below w.heap.size w (w.drewN n) := (Chg.drewN' (S := fun _ => False) n).below (Nat.le_refl _) (fun _ _ e => e)
set_option maxHeartbeats 1000000 in
theorem ask_ok (h : MS w0 X w v d m st false tv s size) (hup : d.off = false) (hst : d.starts = st) :
    Calls Tryz.prog 16 #[.pointer (some ⟨m, 0, none⟩)] w fun e w' => e = .returned (.int .i64 0) ∧ Below w.heap.size w w' := by
  obtain ⟨bd, rfl⟩ := h.live.ptr
  obtain ⟨c0, c1, c2, _, _, _, _⟩ := blk7 h.blk
  have hU := fun n => Calls.quiet (h.live.keep (below_drewN w n)).up
  have hS := fun n => Calls.quiet (h.live.keep (below_drewN w n)).starts
  rw [hup] at hU
  rw [hst] at hS
  have HU := Lib.hid hU
  have HS := Lib.hid hS
  clear hU hS h hst hup
  go_enter Tryz.func16, Tryz.ntmps16
  go_wp2_with fail
  go_quiet (first | (go_at_call 32; exact HU.out _) | (go_at_call 24; exact HS.out _))
  go_wp2_with fail
  go_ret
  exact ⟨rfl, below_drewN _ _⟩
set_option maxHeartbeats 1000000 in
theorem ask_down (h : MS w0 X w v d m st false tv s size) (hup : d.off = true) :
    Calls Tryz.prog 16 #[.pointer (some ⟨m, 0, none⟩)] w fun e w' => e = .returned (.int .i64 51) ∧ Below w.heap.size w w' := by
  obtain ⟨bd, rfl⟩ := h.live.ptr
  obtain ⟨c0, c1, c2, _, _, _, _⟩ := blk7 h.blk
  have hU := fun n => Calls.quiet (h.live.keep (below_drewN w n)).up
  rw [hup] at hU
  have HU := Lib.hid hU
  clear hU h hup
  go_enter Tryz.func16, Tryz.ntmps16
  go_wp2_with fail
  go_quiet ((go_at_call 32; exact HU.out _))
  go_wp2_with fail
  go_ret
  exact ⟨rfl, below_drewN _ _⟩
/-- A manifest that is none. -/
def NilM (w : World) (v : Value) : Prop := v = .pointer none ∨ ∃ b, v = .pointer (some ⟨b, 0, none⟩) ∧ b < w.heap.size ∧ w.cell? ⟨b, 0, none⟩ = some (.pointer none)
theorem NilM.below (h : NilM w v) (x : Below w.heap.size w w') : NilM w' v := by
  rcases h with rfl | ⟨b, rfl, hb, hc⟩
  · exact .inl rfl
  · exact .inr ⟨b, rfl, Nat.lt_of_lt_of_le hb x.size, (x.cell (p := ⟨b, 0, none⟩) hb).trans hc⟩
theorem mask_nil (h : NilM w v) : Calls Tryz.prog 16 #[v] w fun e w' => e = .returned (.int .i64 1) ∧ w = w' := by
  rcases h with rfl | ⟨b, rfl, hb, hc⟩
  all_goals
    go_enter Tryz.func16, Tryz.ntmps16
    go_wp2_with fail
    go_ret
    exact ⟨rfl, rfl⟩
theorem manew_nil (h : NilM w v) : Calls Tryz.prog 8 #[v] w fun e w' => e = .returned (.int .i64 1) ∧ w = w' := by
  have H := Lib.hid (mask_nil h)
  have hv : ∃ a, v = .pointer a := by rcases h with rfl | ⟨b, rfl, _⟩ <;> exact ⟨_, rfl⟩
  obtain ⟨a, rfl⟩ := hv
  clear h
  go_enter Tryz.func8, Tryz.ntmps8
  go_wp2_with fail
  refine H.out.mono ?_
  rintro e w1 ⟨rfl, rfl⟩
  go_wp2_with fail
  go_ret
  exact ⟨rfl, rfl⟩
theorem mdo_nil (h : NilM w v) (x : Option Addr) (n c : Nat) : Calls Tryz.prog 7 #[v, .slice x n c] w fun e w' => e = .returned (.int .i64 1) ∧ w = w' := by
  have H := Lib.hid (mask_nil h)
  have hv : ∃ a, v = .pointer a := by rcases h with rfl | ⟨b, rfl, _⟩ <;> exact ⟨_, rfl⟩
  obtain ⟨a, rfl⟩ := hv
  clear h
  go_enter Tryz.func7, Tryz.ntmps7
  go_wp2_with fail
  refine H.out.mono ?_
  rintro e w1 ⟨rfl, rfl⟩
  go_wp2_with fail
  go_ret
  exact ⟨rfl, rfl⟩
set_option maxHeartbeats 1000000 in
theorem mstate_nil (h : NilM w v) : Calls Tryz.prog 6 #[v] w fun e w' => e = .returned (.agg #[.slice none 0 0, .int .i64 0, .int .i64 0]) ∧ Below w.heap.size w w' := by
  obtain ⟨w1, hw1⟩ : ∃ w1, w1 = w.alloc (.cells #[.slice none 0 0, .int .i64 0, .int .i64 0] 28 (0, 0)) := ⟨_, rfl⟩
  have hb1 : Below w.heap.size w w1 := by rw [hw1]; exact (Below.refl _ _).alloc (Nat.le_refl _) _
  have hk : Blk w1 w.heap.size 28 #[.slice none 0 0, .int .i64 0, .int .i64 0] := by rw [hw1]; exact Blk.alloc_new w _ _
  obtain ⟨q0, q1, q2, f0, f1, f2⟩ := blk3 hk
  have Hk := Lib.hid hk
  have Hb := Lib.hid hb1
  have h' := h.below hb1
  rw [hw1] at h'
  have HW1 := Lib.hid hw1
  clear hk h hw1
  rcases h' with rfl | ⟨b, rfl, hb, hc⟩
  all_goals
    clear hb1
    go_enter Tryz.func6, Tryz.ntmps6
    go_wp2_with fail
    rw [← HW1.out]
    go_wp2_with fail
    refine bodyPost_ret (v := .agg #[.slice none 0 0, .int .i64 0, .int .i64 0]) (by simp [results, Tryz.results6, go_sem, q0, q1, q2]) rfl ⟨rfl, Hb.out⟩
set_option maxHeartbeats 2000000 in
theorem mstate_any (h : MS w0 X w v d m st bad tv s size) (hv : Ed.Valid s) (hf : Fits s.l) :
    Calls Tryz.prog 6 #[.pointer (some ⟨m, 0, none⟩)] w fun e w' => ∃ tv', e = .returned (stV tv' s.log s.next) ∧ RdTB w' w.heap.size tv' s.l ∧ Below w.heap.size w w' := by
  obtain ⟨w1, hw1⟩ : ∃ w1, w1 = w.alloc (.cells #[.slice none 0 0, .int .i64 0, .int .i64 0] 28 (0, 0)) := ⟨_, rfl⟩
  have hb1 : Below w.heap.size w w1 := by rw [hw1]; exact (Below.refl _ _).alloc (Nat.le_refl _) _
  have hk : Blk w1 w.heap.size 28 #[.slice none 0 0, .int .i64 0, .int .i64 0] := by rw [hw1]; exact Blk.alloc_new w _ _
  have h1 := h.below hb1
  obtain ⟨bd, rfl⟩ := h.live.ptr
  obtain ⟨c0, c1, c2, c3, c4, c5, c6⟩ := blk7 h1.blk
  have ha := all_any tv s (.slice none 0 0) [] w1 h1.rows.rd hf ⟨none, 0, rfl, fun j hj => absurd hj (by simp)⟩ (by simp) (fun j hj => absurd hj (by simp))
  rw [show allQ s [] = some s by unfold allQ; rw [if_pos hv]; rfl] at ha
  have HA := Lib.hid ha
  have Hk := Lib.hid hk
  have Hb := Lib.hid hb1
  have hz1 : w1.heap.size = w.heap.size + 1 := by rw [hw1]; simp
  have Hz1 := Lib.hid hz1
  obtain ⟨tx, tc, htv, _⟩ := h.rows.rd
  subst htv
  obtain ⟨log, hlog⟩ : ∃ x, x = s.log := ⟨_, rfl⟩
  obtain ⟨nxt, hnxt⟩ : ∃ x, x = s.next := ⟨_, rfl⟩
  unfold AppPost stV at HA
  rw [← hlog] at c4
  rw [← hnxt] at c5
  rw [← hlog, ← hnxt] at HA
  rw [hw1] at c0 c3 c4 c5
  have HW1 := Lib.hid hw1
  have Hlog := Lib.hid hlog
  have Hnxt := Lib.hid hnxt
  unfold stV
  rw [← hlog, ← hnxt]
  clear hk h hw1 h1 ha hb1 hz1 hv hf hlog hnxt
  obtain ⟨tn, htn⟩ : ∃ tn, tn = s.l.length := ⟨_, rfl⟩
  rw [← htn] at c3 HA
  have Htn := Lib.hid htn
  clear htn
  go_enter Tryz.func6, Tryz.ntmps6
  go_wp2_with fail
  rw [← HW1.out]
  refine HA.out.mono ?_
  rintro e w2 ⟨hb2, tv', rfl, hr⟩
  have HB2 := Lib.hid (Hb.out.trans (hb2.mono Hb.out.size))
  have HK2 := Lib.hid (Hk.out.below hb2)
  have HR2 := Lib.hid hr
  obtain ⟨tx', tc', htv', _⟩ := hr
  subst htv'
  have hlt2 := HK2.out.lt
  obtain ⟨_, _, _, f0, f1, f2⟩ := blk3 HK2.out
  clear c0 c1 c2 c3 c4 c5 c6
  go_wp2_with fail
  obtain ⟨w7, hw7⟩ : ∃ w7, w7 = ((w2.setCell ⟨w.heap.size, 0, none⟩ (.slice tx' s.l.length tc')).setCell ⟨w.heap.size, 1, none⟩ (.int .i64 s.log)).setCell ⟨w.heap.size, 2, none⟩ (.int .i64 s.next) := ⟨_, rfl⟩
  rw [← hw7]
  obtain ⟨z1, z2⟩ := three_set HK2.out w7 hw7
  obtain ⟨w8, hw8⟩ : ∃ w8, w8 = w7.alloc (.cells #[.slice tx' s.l.length tc', .int .i64 s.log, .int .i64 s.next] 28 (0, 0)) := ⟨_, rfl⟩
  have b8 : Below w7.heap.size w7 w8 := by rw [hw8]; exact (Below.refl _ _).alloc (Nat.le_refl _) _
  rw [← hw8]
  obtain ⟨r0, r1, r2, _, _, _⟩ := blk3 (z1.below b8)
  have hc := z2.trans (Chg.of_below b8)
  have hz := Hz1.out
  refine bodyPost_ret (v := .agg #[.slice tx' s.l.length tc', .int .i64 s.log, .int .i64 s.next]) (by simp [results, Tryz.results6, go_sem, r0, r1, r2]) rfl ⟨_, by rw [Hlog.out, Hnxt.out], (HR2.out.chg hc (fun g hg => by have e : g = w.heap.size := hg; omega)).weak (by omega), HB2.out.trans (hc.below HB2.out.size fun g hg e => by omega)⟩
end
end Go.Proofs.YtcijhhnbhnaiaaaGreat
namespace Go.Proofs.YtcijhhnbhnaiaaaGreat
set_option linter.unusedSimpArgs false
set_option linter.unusedVariables false
set_option maxRecDepth 100000
open Go.RowKit Go.Maps
open Dsk

def manN : Str := [109]
def draM : Str := [109, 43]
section
variable {w0 w w' : World} {X Z Y S : Nat → Prop} {v tv : Value} {l : List Ed.Tab} {d d' : Dk} {m : Nat} {st size r : Int} {bad : Bool} {s : Ed.St}
theorem Live.removeK (h : Live w0 X w v d) (name : ByteArray) {n : Str} (hn : name.data.toList = n) (he : d.remove n = (r, d')) (h1 : name.size ≤ 1000) :
    Calls Tryz.prog 45 #[v, .string name] w fun e w' => e = .returned (.int .i64 r) ∧ Live w0 X w' v d' ∧ Keeps X w w' := by
  subst hn
  refine (h.remove name (lit_le h1)).mono fun _ _ x => ?_
  rw [he] at x
  exact x
theorem Live.appendK (h : Live w0 X w v d) (name s : ByteArray) {n : Str} (hn : name.data.toList = n) (he : d.append n s.data.toList = (r, d')) (h1 : name.size ≤ 1000) (h2 : s.size ≤ maxLen) :
    Calls Tryz.prog 19 #[v, .string name, .string s] w fun e w' => e = .returned (.int .i64 r) ∧ Live w0 X w' v d' ∧ Keeps X w w' := by
  subst hn
  refine (h.append name s (lit_le h1) h2).mono fun _ _ x => ?_
  rw [he] at x
  exact x
theorem Live.syncK (h : Live w0 X w v d) (name : ByteArray) {n : Str} (hn : name.data.toList = n) (he : d.sync n = (r, d')) (h1 : name.size ≤ 1000) :
    Calls Tryz.prog 20 #[v, .string name] w fun e w' => e = .returned (.int .i64 r) ∧ Live w0 X w' v d' ∧ Keeps X w w' := by
  subst hn
  refine (h.sync name (lit_le h1)).mono fun _ _ x => ?_
  rw [he] at x
  exact x
theorem Live.renameK (h : Live w0 X w v d) (name s : ByteArray) {n t : Str} (hn : name.data.toList = n) (ht : s.data.toList = t) (he : d.rename n t = (r, d')) (h1 : name.size ≤ 1000) (h2 : s.size ≤ 1000) :
    Calls Tryz.prog 49 #[v, .string name, .string s] w fun e w' => e = .returned (.int .i64 r) ∧ Live w0 X w' v d' ∧ Keeps X w w' := by
  subst hn ht
  refine (h.rename name s (lit_le h1) (lit_le h2)).mono fun _ _ x => ?_
  rw [he] at x
  exact x
theorem lay1_any (h : MS w0 X w v d m st bad tv s size) {bp : Nat} (hp : Blk w bp 25 #[.pointer (some ⟨m, 0, none⟩)]) (he : d.remove draM = (4, d')) :
    Calls Tryz.prog 44 #[.pointer (some ⟨bp, 0, none⟩)] w fun e w' => e = .returned (.int .i64 0) ∧ Live w0 X w' v d' ∧ Keeps X w w' := by
  have H := Lib.hid (h.live.removeK ⟨#[109, 43]⟩ (n := draM) rfl he (by decide))
  obtain ⟨bd, rfl⟩ := h.live.ptr
  obtain ⟨c0, _⟩ := blk7 h.blk
  have p0 := hp.cell 0
  simp at p0
  clear h hp he
  go_enter Tryz.func44, Tryz.ntmps44
  go_wp2_with fail
  refine H.out.mono ?_
  rintro e w1 ⟨rfl, hl, hk⟩
  have HL := Lib.hid hl
  have HK := Lib.hid hk
  clear hl hk
  go_wp2_with fail
  go_ret
  exact ⟨rfl, HL.out, HK.out⟩
theorem lay2_any (h : MS w0 X w v d m st bad tv s size) {bp bs : Nat} {text : ByteArray} (hp : Blk w bp 25 #[.pointer (some ⟨m, 0, none⟩)]) (hs : Blk w bs 9 #[.string text]) (ht : text.size ≤ maxLen) (he : d.append draM text.data.toList = (0, d')) :
    Calls Tryz.prog 46 #[.pointer (some ⟨bp, 0, none⟩), .pointer (some ⟨bs, 0, none⟩)] w fun e w' => e = .returned (.int .i64 0) ∧ Live w0 X w' v d' ∧ Keeps X w w' := by
  have H := Lib.hid (fun (W : World) (hb : Below w.heap.size w W) => (h.live.keep hb).appendK ⟨#[109, 43]⟩ text (n := draM) rfl he (by decide) ht)
  obtain ⟨bd, rfl⟩ := h.live.ptr
  obtain ⟨c0, _⟩ := blk7 h.blk
  have p0 := hp.cell 0
  have p1 := hs.cell 0
  simp at p0 p1
  clear h hp he hs ht
  go_enter Tryz.func46, Tryz.ntmps46
  go_wp2_with fail
  refine wp_region_ext_tail 5 (by kernel_rfl) (by kernel_rfl) fun K hK => ?_
  simp only [List.take_succ_cons, List.take_zero]
  repeat (go_big_quiet_step (fail))
  refine wpQuiet_nil (hK _ fun x => ?_)
  clear hK K
  simp only [List.drop_succ_cons, List.drop_zero]
  have Hx := Lib.hid x.le
  go_wp2_with fail
  refine (H.out _ Hx.out).mono ?_
  rintro e w1 ⟨rfl, hl, hk⟩
  have HL := Lib.hid hl
  have HK := Lib.hid ((Keeps.below Hx.out).trans hk)
  clear hl hk
  go_wp2_with fail
  go_ret
  exact ⟨rfl, HL.out, HK.out⟩
theorem lay3_any (h : MS w0 X w v d m st bad tv s size) {bp : Nat} (hp : Blk w bp 25 #[.pointer (some ⟨m, 0, none⟩)]) (he : d.sync draM = (0, d')) :
    Calls Tryz.prog 47 #[.pointer (some ⟨bp, 0, none⟩)] w fun e w' => e = .returned (.int .i64 0) ∧ Live w0 X w' v d' ∧ Keeps X w w' := by
  have H := Lib.hid (h.live.syncK ⟨#[109, 43]⟩ (n := draM) rfl he (by decide))
  obtain ⟨bd, rfl⟩ := h.live.ptr
  obtain ⟨c0, _⟩ := blk7 h.blk
  have p0 := hp.cell 0
  simp at p0
  clear h hp he
  go_enter Tryz.func47, Tryz.ntmps47
  go_wp2_with fail
  refine H.out.mono ?_
  rintro e w1 ⟨rfl, hl, hk⟩
  have HL := Lib.hid hl
  have HK := Lib.hid hk
  clear hl hk
  go_wp2_with fail
  go_ret
  exact ⟨rfl, HL.out, HK.out⟩
theorem lay4_any (h : MS w0 X w v d m st bad tv s size) {bp : Nat} (hp : Blk w bp 25 #[.pointer (some ⟨m, 0, none⟩)]) (he : d.rename draM manN = (0, d')) :
    Calls Tryz.prog 48 #[.pointer (some ⟨bp, 0, none⟩)] w fun e w' => e = .returned (.int .i64 0) ∧ Live w0 X w' v d' ∧ Keeps X w w' := by
  have H := Lib.hid (h.live.renameK ⟨#[109, 43]⟩ ⟨#[109]⟩ (n := draM) (t := manN) rfl rfl he (by decide) (by decide))
  obtain ⟨bd, rfl⟩ := h.live.ptr
  obtain ⟨c0, _⟩ := blk7 h.blk
  have p0 := hp.cell 0
  simp at p0
  clear h hp he
  go_enter Tryz.func48, Tryz.ntmps48
  go_wp2_with fail
  refine H.out.mono ?_
  rintro e w1 ⟨rfl, hl, hk⟩
  have HL := Lib.hid hl
  have HK := Lib.hid hk
  clear hl hk
  go_wp2_with fail
  go_ret
  exact ⟨rfl, HL.out, HK.out⟩
/-- The disk, act by act. -/
def layD (d d1 d2 d3 : Dk) : Nat → Dk
  | 0 => d
  | 1 => d
  | 2 => d1
  | 3 => d2
  | _ => d3
set_option maxHeartbeats 2000000 in
theorem lay_any (h : MS w0 X w v d m st false tv s size) {d1 d2 d3 : Dk} (text : ByteArray) (ht : text.size ≤ maxLen)
    (e1 : d.remove draM = (4, d)) (e2 : d.append draM text.data.toList = (0, d1)) (e3 : d1.sync draM = (0, d2)) (e4 : d2.rename draM manN = (0, d3)) :
    Calls Tryz.prog 22 #[.pointer (some ⟨m, 0, none⟩), .string text] w fun e w' => e = .returned (.int .i64 0) ∧ ∃ Y, (∀ k, X k → Y k) ∧ MS w0 Y w' v d3 m st false tv s text.size := by
  obtain ⟨w1, hw1⟩ : ∃ w1, w1 = ((w.alloc (.cells #[.pointer (some ⟨m, 0, none⟩)] 25 (0, 0))).alloc (.cells #[.string text] 9 (0, 0))).alloc (.cells #[.func (.func 44) #[] #[.pointer (some ⟨w.heap.size, 0, none⟩)], .func (.func 46) #[] #[.pointer (some ⟨w.heap.size, 0, none⟩), .pointer (some ⟨w.heap.size + 1, 0, none⟩)], .func (.func 47) #[] #[.pointer (some ⟨w.heap.size, 0, none⟩)], .func (.func 48) #[] #[.pointer (some ⟨w.heap.size, 0, none⟩)]] 32 (0, 0)) := ⟨_, rfl⟩
  obtain ⟨k1, k2, k3, kb, kz⟩ := three_allocs w _ _ _ _ _ _ w1 hw1
  have H1 := Lib.hid (h.add kb)
  have K1 := Lib.hid k1
  have K2 := Lib.hid k2
  have K3 := Lib.hid k3
  have HW1 := Lib.hid hw1
  have E1 := Lib.hid e1
  have E2 := Lib.hid e2
  have E3 := Lib.hid e3
  have E4 := Lib.hid e4
  have HT := Lib.hid ht
  have hlm : m < w.heap.size := h.blk.lt
  obtain ⟨bd, rfl⟩ := h.live.ptr
  clear h hw1 k1 k2 k3 e1 e2 e3 e4 ht
  go_enter Tryz.func22, Tryz.ntmps22
  go_wp2_with fail
  rw [← HW1.out]
  go_loopw [6, 7, 14] (fun _ _ v14 wr => ∃ i : Nat, v14 = .int .i64 i ∧ i ≤ 4 ∧ MS w0 (Also X w w1) wr (.pointer (some ⟨bd, 0, none⟩)) (layD d d1 d2 d3 i) m st false tv s size ∧ Keeps (Also X w w1) w1 wr) (fun _ _ v14 _ => 4 - (intOf v14).toNat)
  case atStart => exact ⟨0, rfl, by omega, H1.out, Chg.refl _ _⟩
  case round =>
    obtain ⟨i, rfl, hi, hms, hkp⟩ := hrel
    have HMS := Lib.hid hms
    have HKP := Lib.hid hkp
    have hb1 := K1.out.chg hkp (fun e => e (.inr ⟨Nat.le_refl _, K1.out.lt⟩))
    have hb2 := K2.out.chg hkp (fun e => e (.inr ⟨by omega, K2.out.lt⟩))
    have hb3 := K3.out.chg hkp (fun e => e (.inr ⟨by omega, K3.out.lt⟩))
    clear hms hkp
    rcases (show i = 0 ∨ i = 1 ∨ i = 2 ∨ i = 3 ∨ i = 4 by omega) with hi0 | hi0 | hi0 | hi0 | hi0
    ·
      have hlt : (i : Int) < 4 := by omega
      have hms2 : MS w0 (Also X w w1) wr (.pointer (some ⟨bd, 0, none⟩)) d m st false tv s size := by have h2 := HMS.out; rw [hi0] at h2; exact h2
      have c : wr.cell? ⟨w.heap.size + 1 + 1, i, none⟩ = some (.func (.func 44) #[] #[.pointer (some ⟨w.heap.size, 0, none⟩)]) := by rw [hi0]; exact hb3.cell 0
      have HC := Lib.hid (lay1_any hms2 hb1 E1.out)
      have Hi0 := Lib.hid hi0
      clear hi0 hms2 hb1 hb2 hb3
      go_wp2_with fail
      refine HC.out.mono ?_
      rintro e w2 ⟨rfl, hl, hk⟩
      have HMS2 := Lib.hid (HMS.out.turn hl hk)
      have HKP2 := Lib.hid (HKP.out.trans hk)
      have hms3 : MS w0 (Also X w w1) w2 (.pointer (some ⟨bd, 0, none⟩)) (layD d d1 d2 d3 (i + 1)) m st false tv s size := by rw [Hi0.out]; exact HMS2.out
      have HMS3 := Lib.hid hms3
      clear hl hk hms3 c
      go_wp2_with fail
      go_roundw
      case rel => exact ⟨i + 1, by go_num, by omega, HMS3.out, HKP2.out⟩
      case measure => simp [intOf]; omega
    ·
      have hlt : (i : Int) < 4 := by omega
      have hms2 : MS w0 (Also X w w1) wr (.pointer (some ⟨bd, 0, none⟩)) d m st false tv s size := by have h2 := HMS.out; rw [hi0] at h2; exact h2
      have c : wr.cell? ⟨w.heap.size + 1 + 1, i, none⟩ = some (.func (.func 46) #[] #[.pointer (some ⟨w.heap.size, 0, none⟩), .pointer (some ⟨w.heap.size + 1, 0, none⟩)]) := by rw [hi0]; exact hb3.cell 1
      have HC := Lib.hid (lay2_any hms2 hb1 hb2 HT.out E2.out)
      have Hi0 := Lib.hid hi0
      clear hi0 hms2 hb1 hb2 hb3
      go_wp2_with fail
      refine HC.out.mono ?_
      rintro e w2 ⟨rfl, hl, hk⟩
      have HMS2 := Lib.hid (HMS.out.turn hl hk)
      have HKP2 := Lib.hid (HKP.out.trans hk)
      have hms3 : MS w0 (Also X w w1) w2 (.pointer (some ⟨bd, 0, none⟩)) (layD d d1 d2 d3 (i + 1)) m st false tv s size := by rw [Hi0.out]; exact HMS2.out
      have HMS3 := Lib.hid hms3
      clear hl hk hms3 c
      go_wp2_with fail
      go_roundw
      case rel => exact ⟨i + 1, by go_num, by omega, HMS3.out, HKP2.out⟩
      case measure => simp [intOf]; omega
    ·
      have hlt : (i : Int) < 4 := by omega
      have hms2 : MS w0 (Also X w w1) wr (.pointer (some ⟨bd, 0, none⟩)) d1 m st false tv s size := by have h2 := HMS.out; rw [hi0] at h2; exact h2
      have c : wr.cell? ⟨w.heap.size + 1 + 1, i, none⟩ = some (.func (.func 47) #[] #[.pointer (some ⟨w.heap.size, 0, none⟩)]) := by rw [hi0]; exact hb3.cell 2
      have HC := Lib.hid (lay3_any hms2 hb1 E3.out)
      have Hi0 := Lib.hid hi0
      clear hi0 hms2 hb1 hb2 hb3
      go_wp2_with fail
      refine HC.out.mono ?_
      rintro e w2 ⟨rfl, hl, hk⟩
      have HMS2 := Lib.hid (HMS.out.turn hl hk)
      have HKP2 := Lib.hid (HKP.out.trans hk)
      have hms3 : MS w0 (Also X w w1) w2 (.pointer (some ⟨bd, 0, none⟩)) (layD d d1 d2 d3 (i + 1)) m st false tv s size := by rw [Hi0.out]; exact HMS2.out
      have HMS3 := Lib.hid hms3
      clear hl hk hms3 c
      go_wp2_with fail
      go_roundw
      case rel => exact ⟨i + 1, by go_num, by omega, HMS3.out, HKP2.out⟩
      case measure => simp [intOf]; omega
    ·
      have hlt : (i : Int) < 4 := by omega
      have hms2 : MS w0 (Also X w w1) wr (.pointer (some ⟨bd, 0, none⟩)) d2 m st false tv s size := by have h2 := HMS.out; rw [hi0] at h2; exact h2
      have c : wr.cell? ⟨w.heap.size + 1 + 1, i, none⟩ = some (.func (.func 48) #[] #[.pointer (some ⟨w.heap.size, 0, none⟩)]) := by rw [hi0]; exact hb3.cell 3
      have HC := Lib.hid (lay4_any hms2 hb1 E4.out)
      have Hi0 := Lib.hid hi0
      clear hi0 hms2 hb1 hb2 hb3
      go_wp2_with fail
      refine HC.out.mono ?_
      rintro e w2 ⟨rfl, hl, hk⟩
      have HMS2 := Lib.hid (HMS.out.turn hl hk)
      have HKP2 := Lib.hid (HKP.out.trans hk)
      have hms3 : MS w0 (Also X w w1) w2 (.pointer (some ⟨bd, 0, none⟩)) (layD d d1 d2 d3 (i + 1)) m st false tv s size := by rw [Hi0.out]; exact HMS2.out
      have HMS3 := Lib.hid hms3
      clear hl hk hms3 c
      go_wp2_with fail
      go_roundw
      case rel => exact ⟨i + 1, by go_num, by omega, HMS3.out, HKP2.out⟩
      case measure => simp [intOf]; omega
    · have hlt : ¬ (i : Int) < 4 := by omega
      have hms2 : MS w0 (Also X w w1) wr (.pointer (some ⟨bd, 0, none⟩)) d3 m st false tv s size := by have h2 := HMS.out; rw [hi0] at h2; exact h2
      have HM2 := Lib.hid hms2
      obtain ⟨_, _, _, _, _, _, c6⟩ := blk7 hms2.blk
      obtain ⟨_, _, _, _, _, _, f6⟩ := blk7f hms2.blk
      have p0 := hb1.cell 0
      have p1 := hb2.cell 0
      simp at p0 p1
      clear hb1 hb2 hb3 hms2 HMS hi0
      go_wp2_with fail
      go_ret
      refine ⟨rfl, Also X w w1, fun _ e => .inl e, ?_⟩
      have hbk := HM2.out.blk.set 6 (.int .i64 text.size)
      exact HM2.out.own (put_wr wr m 6 (.int .i64 text.size)) hbk ((HM2.out.rows.chg (put_wr wr m 6 (.int .i64 text.size)) (fun k hk e => hk.2 e)))
theorem st_fits {s : Ed.St} (hv : Ed.Valid s) : Fits s.l := ⟨by have := hv.few; unfold maxLen; omega, fun j hj => ⟨by have := (hv.each j hj).1; unfold maxLen; omega, by have := (hv.each j hj).2.2.2; unfold maxLen; omega⟩⟩
set_option maxHeartbeats 2000000 in
theorem anew_any (h : MS w0 X w v d m st false tv s size) (hup : d.off = false) (hst : d.starts = st) (hv : Ed.Valid s) {d1 d2 d3 : Dk} {text : List UInt8} (htx : Frm.frame (Ed.encS s) = text) (hlen : (Ed.encS s).length ≤ 16384)
    (e1 : d.remove draM = (4, d)) (e2 : d.append draM text = (0, d1)) (e3 : d1.sync draM = (0, d2)) (e4 : d2.rename draM manN = (0, d3)) :
    Calls Tryz.prog 8 #[.pointer (some ⟨m, 0, none⟩)] w fun e w' => e = .returned (.int .i64 0) ∧ ∃ Y, (∀ k, X k → Y k) ∧ MS w0 Y w' v d3 m st false tv s text.length := by
  have HASK := Lib.hid (ask_ok h hup hst)
  have H := Lib.hid h
  have hle : (encRes s) = (encSB s, 0) := by unfold encRes; rw [if_pos (Ed.validB_true hv)]
  have HENC := Lib.hid (fun (W : World) (hW : Below w.heap.size w W) => by
    have := encodeState_any tv s W (h.rows.rd.below hW) (st_fits hv)
    rw [hle] at this
    exact this)
  have hsz : (encSB s).size = (Ed.encS s).length := by unfold encSB; exact List.size_toArray
  have HFR := Lib.hid (fun W => by
    have := frame_short (encSB s) W (by rw [hsz]; exact hlen)
    rw [show (encSB s).data.toList = Ed.encS s by unfold encSB; simp, htx] at this
    exact this)
  have htl : text.length ≤ maxLen := by rw [← htx, Frm.frame_length]; unfold maxLen; omega
  have htz : (⟨text.toArray⟩ : ByteArray).size = text.length := List.size_toArray
  have HLAY := Lib.hid (fun (W : World) (hW : Below w.heap.size w W) => by
    have := lay_any (h.below hW) ⟨text.toArray⟩ (by rw [htz]; exact htl) e1 (by simpa using e2) e3 e4
    rw [htz] at this
    exact this)
  obtain ⟨bd, rfl⟩ := h.live.ptr
  obtain ⟨_, _, _, c3, c4, c5, _⟩ := blk7 h.blk
  obtain ⟨tx, tc, htv, _⟩ := h.rows.rd
  subst htv
  obtain ⟨ES, hES⟩ : ∃ ES, ES = encSB s := ⟨_, rfl⟩
  rw [← hES] at HENC HFR
  unfold stV at HENC
  have hlm := h.blk.lt
  clear h hup hst hv htx hlen e1 e2 e3 e4 hle hsz htl htz hES
  go_enter Tryz.func8, Tryz.ntmps8
  go_wp2_with fail
  refine HASK.out.mono ?_
  rintro e w1 ⟨rfl, hb1⟩
  have g3 := (hb1.cell (p := ⟨m, 3, none⟩) hlm).trans c3
  have g4 := (hb1.cell (p := ⟨m, 4, none⟩) hlm).trans c4
  have g5 := (hb1.cell (p := ⟨m, 5, none⟩) hlm).trans c5
  have HB1 := Lib.hid hb1
  clear hb1 c3 c4 c5
  go_wp2_with fail
  refine (HENC.out w1 HB1.out).mono ?_
  rintro e w2 ⟨rfl, hb2⟩
  have HB2 := Lib.hid (HB1.out.trans (hb2.mono HB1.out.size))
  clear hb2 g3 g4 g5
  go_wp2_with fail
  refine (HFR.out w2).mono ?_
  rintro e w3 ⟨rfl, hb3⟩
  have HB3 := Lib.hid (HB2.out.trans (hb3.mono HB2.out.size))
  clear hb3
  go_wp2_with fail
  refine (HLAY.out w3 HB3.out).mono ?_
  rintro e w4 ⟨rfl, hY⟩
  have HY := Lib.hid hY
  clear hY
  go_wp2_with fail
  go_ret
  exact ⟨rfl, HY.out⟩
end
end Go.Proofs.YtcijhhnbhnaiaaaGreat

/- A journal in memory: why it does nothing; a batch laid; its file's number: walked. -/
import Derived.Test.YtcijhhnbhnaiaaaGreatDoorJouD
import Derived.Test.YtcijhhnbhnaiaaaGreatDoorDiskNil
import Derived.Test.YtcijhhnbhnaiaaaGreatDoorFrames2
namespace Go.Proofs.YtcijhhnbhnaiaaaGreatDoor
set_option linter.unusedSimpArgs false
set_option linter.unusedVariables false
set_option maxRecDepth 100000
open Go.RowKit Go.Maps
open Dsk

theorem blk4 {w : World} {m : Nat} {t : TypeId} {a b c e : Value} (h : Blk w m t #[a, b, c, e]) :
    (w.cell? ⟨m, 0, none⟩ = some a ∧ w.cell? ⟨m, 1, none⟩ = some b ∧ w.cell? ⟨m, 2, none⟩ = some c ∧ w.cell? ⟨m, 3, none⟩ = some e) := ⟨h.cell 0, h.cell 1, h.cell 2, h.cell 3⟩
theorem below_drewN (w : World) (n : Nat) : Below w.heap.size w (w.drewN n) := (Chg.drewN' (S := fun _ => False) n).below (Nat.le_refl _) (fun _ _ e => e)
section
variable {w0 w w' : World} {X Z Y S : Nat → Prop} {v : Value} {d d' : Dk} {j : Nat} {st num r : Int} {bad : Bool}
theorem Live.chg (h : Live w0 X w v d) (x : Chg S w w') (hX : ∀ k, S k → X k ∧ w0.heap.size ≤ k) : Live w0 X w' v d := by
  obtain ⟨F, h1, h2, h3, h4⟩ := h
  exact ⟨F, h1.chg x (fun k hk hs => (h2 k hk).2 (hX k hs).1), h2, fun k hk => Nat.lt_of_lt_of_le (h3 k hk) x.size, h4.trans (x.below h4.size (fun k hk hs => by have := (hX k hs).2; omega))⟩
theorem Live.removeK (h : Live w0 X w v d) (name : ByteArray) {n : Str} (hn : name.data.toList = n) (he : d.remove n = (r, d')) (h1 : name.size ≤ 1000) :
    Calls Tryz.prog 61 #[v, .string name] w fun e w' => e = .returned (.int .i64 r) ∧ Live w0 X w' v d' ∧ Keeps X w w' := by
  subst hn
  refine (h.remove name (lit_le h1)).mono fun _ _ x => ?_
  rw [he] at x
  exact x
theorem Live.appendK (h : Live w0 X w v d) (name s : ByteArray) {n t : Str} (hn : name.data.toList = n) (ht : s.data.toList = t) (he : d.append n t = (r, d')) (h1 : name.size ≤ 1000) (h2 : s.size ≤ maxLen) :
    Calls Tryz.prog 29 #[v, .string name, .string s] w fun e w' => e = .returned (.int .i64 r) ∧ Live w0 X w' v d' ∧ Keeps X w w' := by
  subst hn ht
  refine (h.append name s (lit_le h1) h2).mono fun _ _ x => ?_
  rw [he] at x
  exact x
theorem Live.syncK (h : Live w0 X w v d) (name : ByteArray) {n : Str} (hn : name.data.toList = n) (he : d.sync n = (r, d')) (h1 : name.size ≤ 1000) :
    Calls Tryz.prog 43 #[v, .string name] w fun e w' => e = .returned (.int .i64 r) ∧ Live w0 X w' v d' ∧ Keeps X w w' := by
  subst hn
  refine (h.sync name (lit_le h1)).mono fun _ _ x => ?_
  rw [he] at x
  exact x
theorem Live.renameK (h : Live w0 X w v d) (name s : ByteArray) {n t : Str} (hn : name.data.toList = n) (ht : s.data.toList = t) (he : d.rename n t = (r, d')) (h1 : name.size ≤ 1000) (h2 : s.size ≤ 1000) :
    Calls Tryz.prog 64 #[v, .string name, .string s] w fun e w' => e = .returned (.int .i64 r) ∧ Live w0 X w' v d' ∧ Keeps X w w' := by
  subst hn ht
  refine (h.rename name s (lit_le h1) (lit_le h2)).mono fun _ _ x => ?_
  rw [he] at x
  exact x
/-- j is the journal of the disk v, which is d. -/
structure JS (w0 : World) (X : Nat → Prop) (w : World) (v : Value) (d : Dk) (j : Nat) (st : Int) (bad : Bool) (num : Int) : Prop where
  live : Live w0 X w v d
  blk : Blk w j 56 #[v, .int .i64 st, .bool bad, .int .i64 num]
  inX : X j
  new : w0.heap.size ≤ j
theorem JS.below (h : JS w0 X w v d j st bad num) (x : Below w.heap.size w w') : JS w0 X w' v d j st bad num := ⟨h.live.keep x, h.blk.below x, h.inX, h.new⟩
theorem JS.turn (h : JS w0 X w v d j st bad num) (hl : Live w0 X w' v d') (x : Keeps X w w') : JS w0 X w' v d' j st bad num := ⟨hl, h.blk.chg x (fun e => e h.inX), h.inX, h.new⟩
theorem JS.add (h : JS w0 X w v d j st bad num) (x : Below w.heap.size w w') : JS w0 (Also X w w') w' v d j st bad num := ⟨h.live.add x, h.blk.below x, .inl h.inX, h.new⟩
theorem JS.own {st' num' : Int} {bad' : Bool} (h : JS w0 X w v d j st bad num) (x : Chg (fun g => g = j) w w') (hb : Blk w' j 56 #[v, .int .i64 st', .bool bad', .int .i64 num']) : JS w0 X w' v d j st' bad' num' :=
  ⟨h.live.chg x (fun k e => by have e : k = j := e; subst e; exact ⟨h.inX, h.new⟩), hb, h.inX, h.new⟩
theorem JS.drop (h : JS w0 X w v d j st bad num) (hY : ∀ k, Y k → X k) (hj : Y j) : JS w0 Y w v d j st bad num := ⟨h.live.drop hY, h.blk, hj, h.new⟩
/-- What an act of the journal leaves: all but what is no block of X, and its own. -/
def JK (X : Nat → Prop) (j : Nat) (w w' : World) : Prop := Chg (fun k => ¬ X k ∨ k = j) w w'
set_option maxHeartbeats 1000000 in
theorem jask_ok (h : JS w0 X w v d j st false num) (hup : d.off = false) (hst : d.starts = st) :
    Calls Tryz.prog 38 #[.pointer (some ⟨j, 0, none⟩)] w fun e w' => e = .returned (.int .i64 0) ∧ Below w.heap.size w w' := by
  obtain ⟨bd, rfl⟩ := h.live.ptr
  obtain ⟨c0, c1, c2, _⟩ := blk4 h.blk
  have hU := fun n => Calls.quiet (h.live.keep (below_drewN w n)).up
  have hS := fun n => Calls.quiet (h.live.keep (below_drewN w n)).starts
  rw [hup] at hU
  rw [hst] at hS
  have HU := Lib.hid hU
  have HS := Lib.hid hS
  clear hU hS h hst hup
  go_enter Tryz.func38, Tryz.ntmps38
  go_wp2_with fail
  go_quiet (first | (go_at_call 32; exact HU.out _) | (go_at_call 33; exact HS.out _))
  go_wp2_with fail
  go_ret
  exact ⟨rfl, below_drewN _ _⟩
set_option maxHeartbeats 1000000 in
theorem jask_down (h : JS w0 X w v d j st false num) (hup : d.off = true) :
    Calls Tryz.prog 38 #[.pointer (some ⟨j, 0, none⟩)] w fun e w' => e = .returned (.int .i64 51) ∧ Below w.heap.size w w' := by
  obtain ⟨bd, rfl⟩ := h.live.ptr
  obtain ⟨c0, c1, c2, _⟩ := blk4 h.blk
  have hU := fun n => Calls.quiet (h.live.keep (below_drewN w n)).up
  rw [hup] at hU
  have HU := Lib.hid hU
  clear hU h hup
  go_enter Tryz.func38, Tryz.ntmps38
  go_wp2_with fail
  go_quiet ((go_at_call 32; exact HU.out _))
  go_wp2_with fail
  go_ret
  exact ⟨rfl, below_drewN _ _⟩
/-- A journal that is none. -/
def NilJ (w : World) (v : Value) : Prop := v = .pointer none ∨ ∃ b, v = .pointer (some ⟨b, 0, none⟩) ∧ b < w.heap.size ∧ w.cell? ⟨b, 0, none⟩ = some (.pointer none)
theorem NilJ.below (h : NilJ w v) (x : Below w.heap.size w w') : NilJ w' v := by
  rcases h with rfl | ⟨b, rfl, hb, hc⟩
  · exact .inl rfl
  · exact .inr ⟨b, rfl, Nat.lt_of_lt_of_le hb x.size, (x.cell (p := ⟨b, 0, none⟩) hb).trans hc⟩
theorem jask_nil (h : NilJ w v) : Calls Tryz.prog 38 #[v] w fun e w' => e = .returned (.int .i64 1) ∧ w = w' := by
  rcases h with rfl | ⟨b, rfl, hb, hc⟩
  all_goals
    go_enter Tryz.func38, Tryz.ntmps38
    go_wp2_with fail
    go_ret
    exact ⟨rfl, rfl⟩
theorem NilJ.ptr (h : NilJ w v) : ∃ a, v = .pointer a := by rcases h with rfl | ⟨b, rfl, _⟩ <;> exact ⟨_, rfl⟩
theorem japp_nil (h : NilJ w v) (x : Option Addr) (n c : Nat) : Calls Tryz.prog 20 #[v, .slice x n c] w fun e w' => e = .returned (.int .i64 1) ∧ w = w' := by
  have H := Lib.hid (jask_nil h)
  obtain ⟨a, rfl⟩ := h.ptr
  clear h
  go_enter Tryz.func20, Tryz.ntmps20
  go_wp2_with fail
  refine H.out.mono ?_
  rintro e w1 ⟨rfl, rfl⟩
  go_wp2_with fail
  go_ret
  exact ⟨rfl, rfl⟩
theorem jbegin_nil (h : NilJ w v) (n : Int) : Calls Tryz.prog 14 #[v, .int .i64 n] w fun e w' => e = .returned (.int .i64 1) ∧ w = w' := by
  have H := Lib.hid (jask_nil h)
  obtain ⟨a, rfl⟩ := h.ptr
  clear h
  go_enter Tryz.func14, Tryz.ntmps14
  go_wp2_with fail
  refine H.out.mono ?_
  rintro e w1 ⟨rfl, rfl⟩
  go_wp2_with fail
  go_ret
  exact ⟨rfl, rfl⟩
theorem jnumber_nil (h : NilJ w v) : Calls Tryz.prog 22 #[v] w fun e w' => e = .returned (.int .i64 0) ∧ w = w' := by
  have H := Lib.hid (jask_nil h)
  obtain ⟨a, rfl⟩ := h.ptr
  clear h
  go_enter Tryz.func22, Tryz.ntmps22
  go_wp2_with fail
  refine H.out.mono ?_
  rintro e w1 ⟨rfl, rfl⟩
  go_wp2_with fail
  go_ret
  exact ⟨rfl, rfl⟩
theorem jsize_nil (h : NilJ w v) : Calls Tryz.prog 27 #[v] w fun e w' => e = .returned (.int .i64 0) ∧ w = w' := by
  have H := Lib.hid (jask_nil h)
  obtain ⟨a, rfl⟩ := h.ptr
  clear h
  go_enter Tryz.func27, Tryz.ntmps27
  go_wp2_with fail
  refine H.out.mono ?_
  rintro e w1 ⟨rfl, rfl⟩
  go_wp2_with fail
  go_ret
  exact ⟨rfl, rfl⟩
theorem jnum_ok (h : JS w0 X w v d j st false num) (hup : d.off = false) (hst : d.starts = st) :
    Calls Tryz.prog 22 #[.pointer (some ⟨j, 0, none⟩)] w fun e w' => e = .returned (.int .i64 num) ∧ Below w.heap.size w w' := by
  have H := Lib.hid (jask_ok h hup hst)
  obtain ⟨_, _, _, c3⟩ := blk4 h.blk
  have hl := h.blk.lt
  clear h hup hst
  go_enter Tryz.func22, Tryz.ntmps22
  go_wp2_with fail
  refine H.out.mono ?_
  rintro e w1 ⟨rfl, hb⟩
  have g3 := (hb.cell (p := ⟨j, 3, none⟩) hl).trans c3
  have HB := Lib.hid hb
  clear hb c3
  go_wp2_with fail
  go_ret
  exact ⟨rfl, HB.out⟩
/-- What laying a batch comes to: the error, whether the journal is bad then, the disk. -/
def jApp (d : Dk) (n : Nat) (l : List Jou.Cell) : Int × Bool × Dk :=
  if (encQ l).2 ≠ 0 then ((encQ l).2, false, d)
  else if l.length = 0 then (0, false, d)
  else if 16384 < (encQ l).1.length then (3, false, d)
  else
    let a := d.append (jn n) (Frm.frame (encQ l).1)
    if a.1 ≠ 0 then (a.1, a.1 != 50, a.2)
    else
      let b := a.2.sync (jn n)
      if b.1 ≠ 0 then (b.1, true, b.2) else (0, false, b.2)
theorem JS.jk_below (h : Below w.heap.size w w') : JK X j w w' := Chg.of_below h
set_option maxHeartbeats 4000000 in
theorem japp_any {n : Nat} (h : JS w0 X w v d j st false n) (hup : d.off = false) (hst : d.starts = st) (hn : NumOk w0 n) {lv : Value} {l : List Jou.Cell} (hl : RdC w lv l) (hll : l.length ≤ 100000) (hs : ∀ c ∈ l, c.seq < 9223372036854775808) :
    Calls Tryz.prog 20 #[.pointer (some ⟨j, 0, none⟩), lv] w fun e w' => e = .returned (.int .i64 (jApp d n l).1) ∧ JS w0 X w' v (jApp d n l).2.2 j st (jApp d n l).2.1 n ∧ JK X j w w' := by
  have H := Lib.hid (jask_ok h hup hst)
  have HJ := Lib.hid h
  have HEN := Lib.hid (fun (W : World) (hW : Below w.heap.size w W) => encode_c lv l W (hl.below hW) (by omega) hs)
  obtain ⟨lx, lc, hlv, _⟩ := id hl
  subst hlv
  obtain ⟨m, hm⟩ : ∃ m, m = l.length := ⟨_, rfl⟩
  rw [← hm] at HEN ⊢
  obtain ⟨R, hR⟩ : ∃ R, R = jApp d n l := ⟨_, rfl⟩
  rw [← hR]
  obtain ⟨q, hq⟩ : ∃ q, q = encQ l := ⟨_, rfl⟩
  unfold jApp at hR
  rw [← hq] at HEN hR
  rw [← hm] at hR
  obtain ⟨bd, rfl⟩ := h.live.ptr
  obtain ⟨Q, hQ⟩ : ∃ Q : ByteArray, Q = ⟨q.1.toArray⟩ := ⟨_, rfl⟩
  rw [← hQ] at HEN
  have hQz : Q.size = q.1.length := by rw [hQ]; exact List.size_toArray
  have hQd : Q.data.toList = q.1 := by rw [hQ]
  obtain ⟨num, hnum⟩ : ∃ num : Int, num = n := ⟨_, rfl⟩
  have HNUM := Lib.hid hnum
  have hmn : m ≤ 100000 := by omega
  clear h hup hst hl hs hm hq hQ hll
  by_cases h1 : q.2 ≠ 0
  · rw [if_pos h1] at hR
    have t1 : (q.2 == 0) = false := beq_eq_false_iff_ne.2 h1
    have HR := Lib.hid hR
    obtain ⟨q2, hq2⟩ : ∃ q2, q2 = q.2 := ⟨_, rfl⟩
    rw [← hq2] at HEN t1 HR
    have t0 : ¬ q2 = 0 := by rw [hq2]; exact h1
    clear hR h1 hq2
    go_enter Tryz.func20, Tryz.ntmps20
    go_wp2_with fail
    refine H.out.mono ?_
    rintro e w1 ⟨rfl, hb1⟩
    have HB1 := Lib.hid hb1
    clear hb1
    go_wp2_with fail
    refine (HEN.out w1 HB1.out).mono ?_
    rintro e w2 ⟨rfl, hb2⟩
    have HB2 := Lib.hid (HB1.out.trans (hb2.mono HB1.out.size))
    clear hb2
    go_wp2_with fail
    go_ret
    rw [HR.out]
    exact ⟨rfl, HJ.out.below HB2.out, JS.jk_below HB2.out⟩
  · rw [if_neg h1] at hR
    have h1' : q.2 = 0 := Decidable.not_not.1 h1
    rw [h1'] at HEN
    clear h1 h1'
    by_cases h2 : m = 0
    · rw [if_pos h2] at hR
      have HR := Lib.hid hR
      subst h2
      clear hR
      go_enter Tryz.func20, Tryz.ntmps20
      go_wp2_with fail
      refine H.out.mono ?_
      rintro e w1 ⟨rfl, hb1⟩
      have HB1 := Lib.hid hb1
      clear hb1
      go_wp2_with fail
      refine (HEN.out w1 HB1.out).mono ?_
      rintro e w2 ⟨rfl, hb2⟩
      have HB2 := Lib.hid (HB1.out.trans (hb2.mono HB1.out.size))
      clear hb2
      go_wp2_with fail
      go_ret
      rw [HR.out]
      exact ⟨rfl, HJ.out.below HB2.out, JS.jk_below HB2.out⟩
    · rw [if_neg h2] at hR
      have t2 : ((m : Int) == 0) = false := by rw [beq_eq_false_iff_ne]; omega
      by_cases h3 : 16384 < q.1.length
      · rw [if_pos h3] at hR
        have HR := Lib.hid hR
        have HFR := Lib.hid (fun W => frame_long Q W (by omega))
        clear hR h3 h2
        go_enter Tryz.func20, Tryz.ntmps20
        go_wp2_with fail
        refine H.out.mono ?_
        rintro e w1 ⟨rfl, hb1⟩
        have HB1 := Lib.hid hb1
        clear hb1
        go_wp2_with fail
        refine (HEN.out w1 HB1.out).mono ?_
        rintro e w2 ⟨rfl, hb2⟩
        have HB2 := Lib.hid (HB1.out.trans (hb2.mono HB1.out.size))
        clear hb2
        go_wp2_with fail
        refine (HFR.out w2).mono ?_
        rintro e w3 ⟨rfl, hb3⟩
        have HB3 := Lib.hid (HB2.out.trans (hb3.mono HB2.out.size))
        clear hb3
        go_wp2_with fail
        go_ret
        rw [HR.out]
        exact ⟨rfl, HJ.out.below HB3.out, JS.jk_below HB3.out⟩
      · rw [if_neg h3] at hR
        have HFR := Lib.hid (fun W => frame_short Q W (by omega))
        rw [hQd] at HFR
        obtain ⟨T, hT0⟩ : ∃ T : ByteArray, T = ⟨(Frm.frame q.1).toArray⟩ := ⟨_, rfl⟩
        have hTd : T.data.toList = Frm.frame q.1 := by rw [hT0]
        have hTz : T.size ≤ maxLen := by
          have : T.size = (Frm.frame q.1).length := by rw [hT0]; exact List.size_toArray
          rw [this, Frm.frame_length]; unfold maxLen; omega
        rw [← hT0] at HFR
        have HTd := Lib.hid hTd
        have HTz := Lib.hid hTz
        obtain ⟨A, hA⟩ : ∃ A, A = d.append (jn n) (Frm.frame q.1) := ⟨_, rfl⟩
        rw [← hA] at hR
        obtain ⟨ra, da⟩ := A
        have HA := Lib.hid hA.symm
        have HNO := Lib.hid hn
        rw [← hnum] at HJ
        clear h3 h2 hQd hQz hT0 hTd hTz hA hn hnum
        simp only at hR
        go_enter Tryz.func20, Tryz.ntmps20
        go_wp2_with fail
        refine H.out.mono ?_
        rintro e w1 ⟨rfl, hb1⟩
        have HB1 := Lib.hid hb1
        clear hb1
        go_wp2_with fail
        refine (HEN.out w1 HB1.out).mono ?_
        rintro e w2 ⟨rfl, hb2⟩
        have HB2 := Lib.hid (HB1.out.trans (hb2.mono HB1.out.size))
        clear hb2
        go_wp2_with fail
        refine (HFR.out w2).mono ?_
        rintro e w3 ⟨rfl, hb3⟩
        have HB3 := Lib.hid (HB2.out.trans (hb3.mono HB2.out.size))
        have HM3 := Lib.hid (HJ.out.below HB3.out)
        have HC3 := Lib.hid (show Chg (fun k => ¬ X k ∨ k = j) w w3 from Chg.of_below HB3.out)
        clear hb3
        go_wp2_with fail
        refine wp_region_two (T := fun W => W.cell? ⟨j, 0, none⟩ = some (.pointer (some ⟨bd, 0, none⟩)) ∧ W.cell? ⟨j, 3, none⟩ = some (.int .i64 num)) (S := fun _ => True) (n := 99) (by kernel_rfl) ?_
        obtain ⟨y1, hy1⟩ : ∃ y, y = (w3).drew := ⟨_, rfl⟩
        rw [← hy1]
        have hby : Below (w3).heap.size w3 y1 := by rw [hy1]; exact (Below.refl _ _).drew
        have HMy1 := Lib.hid (JS.below HM3.out hby)
        have HCy1 := Lib.hid (Chg.trans HC3.out (Chg.of_below hby))
        have hS : True := trivial
        have hT : y1.cell? ⟨j, 0, none⟩ = some (.pointer (some ⟨bd, 0, none⟩)) ∧ y1.cell? ⟨j, 3, none⟩ = some (.int .i64 num) := by
          obtain ⟨x0, _, _, x3⟩ := blk4 (JS.blk HMy1.out)
          exact ⟨x0, x3⟩
        clear hy1 hby
        refine two_takeT 0 (some 37) (v := ?_) rfl rfl (by kernel_rfl) (by kernel_rfl) (by kernel_rfl) (by decide) (fun _ _ _ h => h) (Or.inl ⟨by rfl, ?hy0⟩) hT hS ?_
        case hy0 => (intro w' hT'; (try unfold T8 at hT'); (try unfold T9 at hT'); (try unfold S8 at hT'); go_simp; (try with_reducible rfl))
        try simp only [Act.put, List.setIfInBounds_toArray, List.set_cons_zero, List.set_cons_succ]
        refine two_takeT 1 (some 38) (v := ?_) rfl rfl (by kernel_rfl) (by kernel_rfl) (by kernel_rfl) (by decide) (fun _ _ _ h => h) (Or.inl ⟨by rfl, ?hy1⟩) hT hS ?_
        case hy1 => (intro w' hT'; (try unfold T8 at hT'); (try unfold T9 at hT'); (try unfold S8 at hT'); go_simp; (try with_reducible rfl))
        try simp only [Act.put, List.setIfInBounds_toArray, List.set_cons_zero, List.set_cons_succ]
        refine two_takeT 2 (some 39) (v := ?_) rfl rfl (by kernel_rfl) (by kernel_rfl) (by kernel_rfl) (by decide) (fun _ _ _ h => h) (Or.inl ⟨by rfl, ?hy2⟩) hT hS ?_
        case hy2 => (intro w' hT'; (try unfold T8 at hT'); (try unfold T9 at hT'); (try unfold S8 at hT'); go_simp; (try with_reducible rfl))
        try simp only [Act.put, List.setIfInBounds_toArray, List.set_cons_zero, List.set_cons_succ]
        refine two_takeT 3 (some 40) (v := ?_) rfl rfl (by kernel_rfl) (by kernel_rfl) (by kernel_rfl) (by decide) (fun _ _ _ h => h) (Or.inl ⟨by rfl, ?hy3⟩) hT hS ?_
        case hy3 => (intro w' hT'; (try unfold T8 at hT'); (try unfold T9 at hT'); (try unfold S8 at hT'); go_simp; (try with_reducible rfl))
        try simp only [Act.put, List.setIfInBounds_toArray, List.set_cons_zero, List.set_cons_succ]
        refine two_takeT 4 (some 41) (v := ?_) rfl rfl (by kernel_rfl) (by kernel_rfl) (by kernel_rfl) (by decide) (fun _ _ _ h => h) (Or.inl ⟨by rfl, ?hy4⟩) hT hS ?_
        case hy4 => (intro w' hT'; (try unfold T8 at hT'); (try unfold T9 at hT'); (try unfold S8 at hT'); go_simp; (try with_reducible rfl))
        try simp only [Act.put, List.setIfInBounds_toArray, List.set_cons_zero, List.set_cons_succ]
        refine two_takeT 5 (some 42) (v := ?_) rfl rfl (by kernel_rfl) (by kernel_rfl) (by kernel_rfl) (by decide) (fun _ _ _ h => h) (Or.inl ⟨by rfl, ?hy5⟩) hT hS ?_
        case hy5 => (intro w' hT'; (try unfold T8 at hT'); (try unfold T9 at hT'); (try unfold S8 at hT'); go_simp; (try with_reducible rfl))
        try simp only [Act.put, List.setIfInBounds_toArray, List.set_cons_zero, List.set_cons_succ]
        refine two_takeT 6 (some 43) (v := ?_) rfl rfl (by kernel_rfl) (by kernel_rfl) (by kernel_rfl) (by decide) (fun _ _ _ h => h) (Or.inl ⟨by rfl, ?hy6⟩) hT hS ?_
        case hy6 => (intro w' hT'; (try unfold T8 at hT'); (try unfold T9 at hT'); (try unfold S8 at hT'); go_simp; (try with_reducible rfl))
        try simp only [Act.put, List.setIfInBounds_toArray, List.set_cons_zero, List.set_cons_succ]
        refine two_takeT 7 (some 44) (v := ?_) rfl rfl (by kernel_rfl) (by kernel_rfl) (by kernel_rfl) (by decide) (fun _ _ _ h => h) (Or.inl ⟨by rfl, ?hy7⟩) hT hS ?_
        case hy7 => (intro w' hT'; (try unfold T8 at hT'); (try unfold T9 at hT'); (try unfold S8 at hT'); go_simp; (try with_reducible rfl))
        try simp only [Act.put, List.setIfInBounds_toArray, List.set_cons_zero, List.set_cons_succ]
        refine two_takeT 9 (some 46) (v := ?_) rfl rfl (by kernel_rfl) (by kernel_rfl) (by kernel_rfl) (by decide) (fun _ _ _ h => h) (Or.inl ⟨by rfl, ?hy9⟩) hT hS ?_
        case hy9 => (intro w' hT'; (try unfold T8 at hT'); (try unfold T9 at hT'); (try unfold S8 at hT'); go_simp; (try with_reducible rfl))
        try simp only [Act.put, List.setIfInBounds_toArray, List.set_cons_zero, List.set_cons_succ]
        refine two_one 8 rfl (by kernel_rfl) ?_
        intro K hK
        go_simp
        refine ((HNUM.out.symm ▸ jnamed_any HNO.out (JS.live HMy1.out).below)).mono ?_
        rintro e y2 ⟨rfl, hbz⟩
        have HMy2 := Lib.hid (JS.below HMy1.out hbz)
        have HCy2 := Lib.hid (Chg.trans HCy1.out (Chg.of_below hbz))
        have hT1 : y2.cell? ⟨j, 0, none⟩ = some (.pointer (some ⟨bd, 0, none⟩)) ∧ y2.cell? ⟨j, 3, none⟩ = some (.int .i64 num) := by
          obtain ⟨x0, _, _, x3⟩ := blk4 (JS.blk HMy2.out)
          exact ⟨x0, x3⟩
        refine hK.out _ _ hT1 (fun _ _ => hS) ?_
        clear hK K hT hbz
        have hT := hT1
        clear hT1
        try simp only [Act.put, List.setIfInBounds_toArray, List.set_cons_zero, List.set_cons_succ]
        refine two_one 10 rfl (by kernel_rfl) ?_
        intro K hK
        go_simp
        refine (HMy2.out.live.appendK (jnB n) T (jnB_data n) HTd.out HA.out (by have := jnB_size HNO.out.hi; omega) HTz.out).mono ?_
        rintro e y3 ⟨rfl, hlz, hkz⟩
        have HMy3 := Lib.hid (JS.turn HMy2.out hlz hkz)
        have HCy3 := Lib.hid (Chg.trans HCy2.out (Chg.mono (show Chg (fun k => ¬ X k) _ _ from hkz) fun k _ e => Or.inl e))
        have hT1 : y3.cell? ⟨j, 0, none⟩ = some (.pointer (some ⟨bd, 0, none⟩)) ∧ y3.cell? ⟨j, 3, none⟩ = some (.int .i64 num) := by
          obtain ⟨x0, _, _, x3⟩ := blk4 (JS.blk HMy3.out)
          exact ⟨x0, x3⟩
        refine hK.out _ _ hT1 (fun _ _ => hS) ?_
        clear hK K hT hlz hkz
        have hT := hT1
        clear hT1
        try simp only [Act.put, List.setIfInBounds_toArray, List.set_cons_zero, List.set_cons_succ]
        refine two_takeT 11 (some 9) (v := ?_) rfl rfl (by kernel_rfl) (by kernel_rfl) (by kernel_rfl) (by decide) (fun _ _ _ h => h) (Or.inl ⟨by rfl, ?hy11⟩) hT hS ?_
        case hy11 => (intro w' hT'; (try unfold T8 at hT'); (try unfold T9 at hT'); (try unfold S8 at hT'); go_simp; (try with_reducible rfl))
        try simp only [Act.put, List.setIfInBounds_toArray, List.set_cons_zero, List.set_cons_succ]
        refine two_done (by kernel_rfl) ?_ _
        clear hT hS
        by_cases hr : ra = 0
        case neg =>
          have t5 : (ra == 0) = false := beq_eq_false_iff_ne.2 hr
          rw [if_pos hr] at hR
          have HR := Lib.hid hR
          obtain ⟨_, _, c2, _⟩ := blk4 HMy3.out.blk
          have f2 := HMy3.out.blk.free 2
          clear hR
          go_wp2_with fail
          go_ret
          rw [HR.out]
          have hch := put_wr y3 j 2 (.bool (ra != 50))
          rw [← HNUM.out]
          exact ⟨rfl, HMy3.out.own hch (HMy3.out.blk.set 2 _), HCy3.out.trans (hch.mono fun k _ e => .inr e)⟩
        case pos =>
          subst hr
          rw [if_neg (by decide)] at hR
          obtain ⟨B, hB⟩ : ∃ B, B = da.sync (jn n) := ⟨_, rfl⟩
          rw [← hB] at hR
          obtain ⟨rb, db⟩ := B
          have HBS := Lib.hid hB.symm
          clear hB
          simp only at hR
          go_wp2_with fail
          refine wp_region_two (T := fun W => W.cell? ⟨j, 0, none⟩ = some (.pointer (some ⟨bd, 0, none⟩)) ∧ W.cell? ⟨j, 3, none⟩ = some (.int .i64 num)) (S := fun _ => True) (n := 99) (by kernel_rfl) ?_
          obtain ⟨y4, hy1⟩ : ∃ y, y = (y3).drew := ⟨_, rfl⟩
          rw [← hy1]
          have hby : Below (y3).heap.size y3 y4 := by rw [hy1]; exact (Below.refl _ _).drew
          have HMy4 := Lib.hid (JS.below HMy3.out hby)
          have HCy4 := Lib.hid (Chg.trans HCy3.out (Chg.of_below hby))
          have hS : True := trivial
          have hT : y4.cell? ⟨j, 0, none⟩ = some (.pointer (some ⟨bd, 0, none⟩)) ∧ y4.cell? ⟨j, 3, none⟩ = some (.int .i64 num) := by
            obtain ⟨x0, _, _, x3⟩ := blk4 (JS.blk HMy4.out)
            exact ⟨x0, x3⟩
          clear hy1 hby
          refine two_takeT 0 (some 56) (v := ?_) rfl rfl (by kernel_rfl) (by kernel_rfl) (by kernel_rfl) (by decide) (fun _ _ _ h => h) (Or.inl ⟨by rfl, ?hy0⟩) hT hS ?_
          case hy0 => (intro w' hT'; (try unfold T8 at hT'); (try unfold T9 at hT'); (try unfold S8 at hT'); go_simp; (try with_reducible rfl))
          try simp only [Act.put, List.setIfInBounds_toArray, List.set_cons_zero, List.set_cons_succ]
          refine two_takeT 1 (some 57) (v := ?_) rfl rfl (by kernel_rfl) (by kernel_rfl) (by kernel_rfl) (by decide) (fun _ _ _ h => h) (Or.inl ⟨by rfl, ?hy1⟩) hT hS ?_
          case hy1 => (intro w' hT'; (try unfold T8 at hT'); (try unfold T9 at hT'); (try unfold S8 at hT'); go_simp; (try with_reducible rfl))
          try simp only [Act.put, List.setIfInBounds_toArray, List.set_cons_zero, List.set_cons_succ]
          refine two_takeT 2 (some 58) (v := ?_) rfl rfl (by kernel_rfl) (by kernel_rfl) (by kernel_rfl) (by decide) (fun _ _ _ h => h) (Or.inl ⟨by rfl, ?hy2⟩) hT hS ?_
          case hy2 => (intro w' hT'; (try unfold T8 at hT'); (try unfold T9 at hT'); (try unfold S8 at hT'); go_simp; (try with_reducible rfl))
          try simp only [Act.put, List.setIfInBounds_toArray, List.set_cons_zero, List.set_cons_succ]
          refine two_takeT 3 (some 59) (v := ?_) rfl rfl (by kernel_rfl) (by kernel_rfl) (by kernel_rfl) (by decide) (fun _ _ _ h => h) (Or.inl ⟨by rfl, ?hy3⟩) hT hS ?_
          case hy3 => (intro w' hT'; (try unfold T8 at hT'); (try unfold T9 at hT'); (try unfold S8 at hT'); go_simp; (try with_reducible rfl))
          try simp only [Act.put, List.setIfInBounds_toArray, List.set_cons_zero, List.set_cons_succ]
          refine two_takeT 4 (some 60) (v := ?_) rfl rfl (by kernel_rfl) (by kernel_rfl) (by kernel_rfl) (by decide) (fun _ _ _ h => h) (Or.inl ⟨by rfl, ?hy4⟩) hT hS ?_
          case hy4 => (intro w' hT'; (try unfold T8 at hT'); (try unfold T9 at hT'); (try unfold S8 at hT'); go_simp; (try with_reducible rfl))
          try simp only [Act.put, List.setIfInBounds_toArray, List.set_cons_zero, List.set_cons_succ]
          refine two_takeT 5 (some 61) (v := ?_) rfl rfl (by kernel_rfl) (by kernel_rfl) (by kernel_rfl) (by decide) (fun _ _ _ h => h) (Or.inl ⟨by rfl, ?hy5⟩) hT hS ?_
          case hy5 => (intro w' hT'; (try unfold T8 at hT'); (try unfold T9 at hT'); (try unfold S8 at hT'); go_simp; (try with_reducible rfl))
          try simp only [Act.put, List.setIfInBounds_toArray, List.set_cons_zero, List.set_cons_succ]
          refine two_takeT 6 (some 62) (v := ?_) rfl rfl (by kernel_rfl) (by kernel_rfl) (by kernel_rfl) (by decide) (fun _ _ _ h => h) (Or.inl ⟨by rfl, ?hy6⟩) hT hS ?_
          case hy6 => (intro w' hT'; (try unfold T8 at hT'); (try unfold T9 at hT'); (try unfold S8 at hT'); go_simp; (try with_reducible rfl))
          try simp only [Act.put, List.setIfInBounds_toArray, List.set_cons_zero, List.set_cons_succ]
          refine two_takeT 7 (some 63) (v := ?_) rfl rfl (by kernel_rfl) (by kernel_rfl) (by kernel_rfl) (by decide) (fun _ _ _ h => h) (Or.inl ⟨by rfl, ?hy7⟩) hT hS ?_
          case hy7 => (intro w' hT'; (try unfold T8 at hT'); (try unfold T9 at hT'); (try unfold S8 at hT'); go_simp; (try with_reducible rfl))
          try simp only [Act.put, List.setIfInBounds_toArray, List.set_cons_zero, List.set_cons_succ]
          refine two_one 8 rfl (by kernel_rfl) ?_
          intro K hK
          go_simp
          refine ((HNUM.out.symm ▸ jnamed_any HNO.out (JS.live HMy4.out).below)).mono ?_
          rintro e y5 ⟨rfl, hbz⟩
          have HMy5 := Lib.hid (JS.below HMy4.out hbz)
          have HCy5 := Lib.hid (Chg.trans HCy4.out (Chg.of_below hbz))
          have hT1 : y5.cell? ⟨j, 0, none⟩ = some (.pointer (some ⟨bd, 0, none⟩)) ∧ y5.cell? ⟨j, 3, none⟩ = some (.int .i64 num) := by
            obtain ⟨x0, _, _, x3⟩ := blk4 (JS.blk HMy5.out)
            exact ⟨x0, x3⟩
          refine hK.out _ _ hT1 (fun _ _ => hS) ?_
          clear hK K hT hbz
          have hT := hT1
          clear hT1
          try simp only [Act.put, List.setIfInBounds_toArray, List.set_cons_zero, List.set_cons_succ]
          refine two_one 9 rfl (by kernel_rfl) ?_
          intro K hK
          go_simp
          refine (HMy5.out.live.syncK (jnB n) (jnB_data n) HBS.out (by have := jnB_size HNO.out.hi; omega)).mono ?_
          rintro e y6 ⟨rfl, hlz, hkz⟩
          have HMy6 := Lib.hid (JS.turn HMy5.out hlz hkz)
          have HCy6 := Lib.hid (Chg.trans HCy5.out (Chg.mono (show Chg (fun k => ¬ X k) _ _ from hkz) fun k _ e => Or.inl e))
          have hT1 : y6.cell? ⟨j, 0, none⟩ = some (.pointer (some ⟨bd, 0, none⟩)) ∧ y6.cell? ⟨j, 3, none⟩ = some (.int .i64 num) := by
            obtain ⟨x0, _, _, x3⟩ := blk4 (JS.blk HMy6.out)
            exact ⟨x0, x3⟩
          refine hK.out _ _ hT1 (fun _ _ => hS) ?_
          clear hK K hT hlz hkz
          have hT := hT1
          clear hT1
          try simp only [Act.put, List.setIfInBounds_toArray, List.set_cons_zero, List.set_cons_succ]
          refine two_takeT 10 (some 10) (v := ?_) rfl rfl (by kernel_rfl) (by kernel_rfl) (by kernel_rfl) (by decide) (fun _ _ _ h => h) (Or.inl ⟨by rfl, ?hy10⟩) hT hS ?_
          case hy10 => (intro w' hT'; (try unfold T8 at hT'); (try unfold T9 at hT'); (try unfold S8 at hT'); go_simp; (try with_reducible rfl))
          try simp only [Act.put, List.setIfInBounds_toArray, List.set_cons_zero, List.set_cons_succ]
          refine two_done (by kernel_rfl) ?_ _
          clear hT hS
          by_cases hr : rb = 0
          case neg =>
            have t5 : (rb == 0) = false := beq_eq_false_iff_ne.2 hr
            rw [if_pos hr] at hR
            have HR := Lib.hid hR
            obtain ⟨_, _, c2, _⟩ := blk4 HMy6.out.blk
            have f2 := HMy6.out.blk.free 2
            clear hR
            go_wp2_with fail
            go_ret
            rw [HR.out]
            have hch := put_wr y6 j 2 (.bool true)
            rw [← HNUM.out]
            exact ⟨rfl, HMy6.out.own hch (HMy6.out.blk.set 2 _), HCy6.out.trans (hch.mono fun k _ e => .inr e)⟩
          case pos =>
            subst hr
            rw [if_neg (by decide)] at hR
            have HR := Lib.hid hR
            clear hR
            go_wp2_with fail
            go_ret
            rw [HR.out, ← HNUM.out]
            exact ⟨rfl, HMy6.out, HCy6.out⟩
end
end Go.Proofs.YtcijhhnbhnaiaaaGreatDoor

/- A host's log that does not run (its disk fell, or was started since): what its acts answer: walked. A host's log with a row of spans beside it: each act of the laws, whether the log runs or not: walked. -/
import Derived.Test.YtiepipcankhdnaaGreatDoorJ7
import Derived.Test.YtiepipcankhdnaaGreatDoorJ11
import Derived.Test.YtiepipcankhdnaaGreatDoorJ10
import Derived.Test.YtiepipcankhdnaaGreatDoorJ6
namespace Go.Proofs.YtiepipcankhdnaaGreatDoor
set_option linter.unusedSimpArgs false
set_option linter.unusedVariables false
set_option maxRecDepth 100000
open Go.RowKit Go.Maps
open Dsk

section
variable {w0 w w' : World} {X H : Nat → Prop} {v : Value} {d : Dk} {j : Nat} {h : Hl}
set_option maxHeartbeats 1000000 in
theorem happend_down (h0 : HS w0 X H w v d j h) (hrun : ¬ h.runs d) (x : Sp.Span) : Calls Tryz.prog 12 #[.pointer (some ⟨j, 0, none⟩), spV x] w fun e w' => e = .returned (.int .i64 51) ∧ Below w.heap.size w w' := by
  have HR := Lib.hid (fun (W : World) (hW : Below w.heap.size w W) => hruns_any (h0.below hW))
  rw [if_neg hrun] at HR
  clear h0 hrun
  unfold spV
  have HB := Lib.hid (fun (o : Obj) => show Below w.heap.size w (w.alloc o) from (Below.refl _ _).alloc (Nat.le_refl _) _)
  go_enter Tryz.func12, Tryz.ntmps12
  go_wp2_with fail
  refine (HR.out _ (HB.out _)).mono ?_
  rintro e w1 ⟨rfl, hb1⟩
  have HB1 := Lib.hid ((HB.out _).trans (hb1.mono (HB.out _).size))
  clear hb1
  go_wp2_with fail
  go_ret
  exact ⟨rfl, HB1.out⟩
set_option maxHeartbeats 1000000 in
theorem hretain_down (h0 : HS w0 X H w v d j h) (hrun : ¬ h.runs d) (n : Int) : Calls Tryz.prog 23 #[.pointer (some ⟨j, 0, none⟩), .int .i64 n] w fun e w' => e = .returned (.int .i64 51) ∧ Below w.heap.size w w' := by
  have HR := Lib.hid (hruns_any h0)
  rw [if_neg hrun] at HR
  clear h0 hrun
  go_enter Tryz.func23, Tryz.ntmps23
  go_wp2_with fail
  refine HR.out.mono ?_
  rintro e w1 ⟨rfl, hb1⟩
  have HB := Lib.hid hb1
  clear hb1
  go_wp2_with fail
  go_ret
  exact ⟨rfl, HB.out⟩
theorem lastPtr_ptr (lv : Value) (n : Nat) : ∃ a, lastPtr lv n = .pointer a := by
  unfold lastPtr
  split
  · exact ⟨_, rfl⟩
  · exact ⟨_, rfl⟩
set_option maxHeartbeats 1000000 in
theorem hsync_down (h0 : HS w0 X H w v d j h) (hrun : ¬ h.runs d) (hm : h.l.length ≤ 1000000) : Calls Tryz.prog 14 #[.pointer (some ⟨j, 0, none⟩)] w fun e w' => e = .returned (.int .i64 51) ∧ Below w.heap.size w w' := by
  have HR := Lib.hid (hruns_any h0)
  rw [if_neg hrun] at HR
  obtain ⟨lv, vs, ho⟩ := h0.open_
  have HL := Lib.hid (fun (W : World) (hW : Below w.heap.size w W) => hend_any (ho.below hW).blk (ho.below hW).rows hm)
  obtain ⟨a, ha⟩ := lastPtr_ptr lv h.l.length
  rw [ha] at HL
  clear h0 ho hrun ha
  go_enter Tryz.func14, Tryz.ntmps14
  go_wp2_with fail
  refine HR.out.mono ?_
  rintro e w1 ⟨rfl, hb1⟩
  have HB := Lib.hid hb1
  clear hb1
  go_wp2_with fail
  refine (HL.out w1 HB.out).mono ?_
  rintro e w2 ⟨rfl, hb2⟩
  have HB2 := Lib.hid (HB.out.trans (hb2.mono HB.out.size))
  clear hb2
  go_wp2_with fail
  go_ret
  exact ⟨rfl, HB2.out⟩
set_option maxHeartbeats 1000000 in
theorem hrotate_down (h0 : HS w0 X H w v d j h) (hrun : ¬ h.runs d) (hm : h.l.length ≤ 1000000) : Calls Tryz.prog 13 #[.pointer (some ⟨j, 0, none⟩)] w fun e w' => e = .returned (.int .i64 51) ∧ Below w.heap.size w w' := by
  have HR := Lib.hid (hruns_any h0)
  rw [if_neg hrun] at HR
  obtain ⟨lv, vs, ho⟩ := h0.open_
  have HL := Lib.hid (fun (W : World) (hW : Below w.heap.size w W) => hend_any (ho.below hW).blk (ho.below hW).rows hm)
  obtain ⟨a, ha⟩ := lastPtr_ptr lv h.l.length
  rw [ha] at HL
  clear h0 ho hrun ha
  go_enter Tryz.func13, Tryz.ntmps13
  go_wp2_with fail
  refine HR.out.mono ?_
  rintro e w1 ⟨rfl, hb1⟩
  have HB := Lib.hid hb1
  clear hb1
  go_wp2_with fail
  refine (HL.out w1 HB.out).mono ?_
  rintro e w2 ⟨rfl, hb2⟩
  have HB2 := Lib.hid (HB.out.trans (hb2.mono HB.out.size))
  clear hb2
  go_wp2_with fail
  go_ret
  exact ⟨rfl, HB2.out⟩
end
end Go.Proofs.YtiepipcankhdnaaGreatDoor
namespace Go.Proofs.YtiepipcankhdnaaGreatDoor
set_option linter.unusedSimpArgs false
set_option linter.unusedVariables false
set_option maxRecDepth 100000
open Go.RowKit Go.Maps
open Dsk

def appA (d : Dk) (h : Hl) (x : Sp.Span) : Int × Hl × Dk := if h.runs d then appP d h x else (51, h, d)
def syncA (d : Dk) (h : Hl) : Int × Hl × Dk := if h.runs d then syncP d h else (51, h, d)
def rotA (d : Dk) (h : Hl) : Int × Hl × Dk := if h.runs d then rotP d h else (51, h, d)
def retA (n : Int) (d : Dk) (h : Hl) : Int × Hl × Dk := if h.runs d then retP n d h else (51, h, d)
/-- Bounds on a log in memory. -/
structure HB (d : Dk) (h : Hl) : Prop where
  many : h.l.length < 1000000
  bnd : h.runs d → SgsBnd h.l
  next : h.runs d → nextOf h.l ≤ 999999999
/-- A log, and a row of spans beside it. -/
def LogW (w wr : World) (bd j : Nat) (d : Dk) (h : Hl) (u : Value) (rs : List Sp.Span) : Prop :=
  ∃ X H, HS w X H wr (.pointer (some ⟨bd, 0, none⟩)) d j h ∧ OwnSp wr w.heap.size u rs ∧ ∀ b, u.ownBlock = some b → X b ∧ ¬ H b
section
variable {w wr w' : World} {bd j : Nat} {d d' : Dk} {h h' : Hl} {u : Value} {rs : List Sp.Span} {X H N : Nat → Prop} {l : List Sg} {t : Str} {s : Nat} {dr : Files}
theorem LogW.live (h0 : LogW w wr bd j d h u rs) : Below w.heap.size w wr := by obtain ⟨_, _, h1, _⟩ := h0; exact h1.live.below
theorem LogW.ok (h0 : LogW w wr bd j d h u rs) : Ok d := by obtain ⟨_, _, h1, _⟩ := h0; exact h1.live.ok
theorem LogW.row (h0 : LogW w wr bd j d h u rs) : OwnSp wr w.heap.size u rs := by obtain ⟨_, _, _, h1, _⟩ := h0; exact h1
theorem LogW.below (h0 : LogW w wr bd j d h u rs) (x : Below wr.heap.size wr w') : LogW w w' bd j d h u rs := by
  obtain ⟨X, H, h1, h2, h3⟩ := h0
  exact ⟨X, H, h1.below x, OwnRow.below h2 x, h3⟩
theorem LogW.begun (h1 : HS w X H wr (.pointer (some ⟨bd, 0, none⟩)) d j h) : LogW w wr bd j d h (.slice none 0 0) [] := ⟨X, H, h1, OwnRow.nil _ _, fun b e => (by cases e)⟩
theorem LogW.post (h2 : OwnSp wr w.heap.size u rs) (h3 : ∀ b, u.ownBlock = some b → X b ∧ ¬ H b) (hp : HPost w X H wr (.pointer (some ⟨bd, 0, none⟩)) d' j h' w') : LogW w w' bd j d' h' u rs := by
  obtain ⟨N, hN, hs, hK⟩ := hp
  exact ⟨_, _, hs, spTurnHK h2 hK h3, fun b hb => ⟨.inl (h3 b hb).1, fun e => e.elim (h3 b hb).2 fun e => by have h1 := (hN b e).1; have h2 := (OwnRow.lt h2 b hb).2; omega⟩⟩
theorem LogW.same (h0 : LogW w wr bd j d h u rs) (x : Below wr.heap.size wr w') : LogW w w' bd j d h u rs := h0.below x
theorem LogW.turn (h1 : HS w X H wr (.pointer (some ⟨bd, 0, none⟩)) d j h) (h2 : OwnSp wr w.heap.size u rs) (h3 : ∀ b, u.ownBlock = some b → X b ∧ ¬ H b) (hl : Live w X w' (.pointer (some ⟨bd, 0, none⟩)) d') (hk : Keeps X wr w') : LogW w w' bd j d' h u rs :=
  ⟨X, H, h1.turn hl hk, OwnRow.chg h2 (show Chg (fun k => ¬ X k) wr w' from hk) fun b hb e => e (h3 b hb).1, h3⟩
theorem LogW.app (h0 : LogW w wr bd j d h u rs) (he : LEnv w) (hb : HB d h) (x : Sp.Span) (h1 : x.service.size ≤ maxLen) (h2 : x.host.size ≤ maxLen) (h3 : x.note.size ≤ maxLen) :
    Calls Tryz.prog 12 #[.pointer (some ⟨j, 0, none⟩), spV x] wr fun e w' => e = .returned (.int .i64 (appA d h x).1) ∧ LogW w w' bd j (appA d h x).2.2 (appA d h x).2.1 u rs := by
  obtain ⟨X, H, g1, g2, g3⟩ := h0
  unfold appA
  by_cases hr : h.runs d
  · simp only [if_pos hr]
    refine (happend_any g1 hr he (hb.bnd hr) hb.many (hb.next hr) x h1 h2 h3).mono ?_
    rintro e w' ⟨rfl, hp⟩
    exact ⟨rfl, LogW.post g2 g3 hp⟩
  · simp only [if_neg hr]
    refine (happend_down g1 hr x).mono ?_
    rintro e w' ⟨rfl, hp⟩
    exact ⟨rfl, LogW.below ⟨X, H, g1, g2, g3⟩ hp⟩
theorem LogW.sync (h0 : LogW w wr bd j d h u rs) (he : LEnv w) (hb : HB d h) :
    Calls Tryz.prog 14 #[.pointer (some ⟨j, 0, none⟩)] wr fun e w' => e = .returned (.int .i64 (syncA d h).1) ∧ LogW w w' bd j (syncA d h).2.2 (syncA d h).2.1 u rs := by
  obtain ⟨X, H, g1, g2, g3⟩ := h0
  unfold syncA
  by_cases hr : h.runs d
  · simp only [if_pos hr]
    refine (hsync_any g1 hr he (hb.bnd hr)).mono ?_
    rintro e w' ⟨rfl, hs, hk⟩
    exact ⟨rfl, LogW.post g2 g3 (HPost.same hs hk)⟩
  · simp only [if_neg hr]
    refine (hsync_down g1 hr (Nat.le_of_lt hb.many)).mono ?_
    rintro e w' ⟨rfl, hp⟩
    exact ⟨rfl, LogW.below ⟨X, H, g1, g2, g3⟩ hp⟩
theorem LogW.rot (h0 : LogW w wr bd j d h u rs) (he : LEnv w) (hb : HB d h) :
    Calls Tryz.prog 13 #[.pointer (some ⟨j, 0, none⟩)] wr fun e w' => e = .returned (.int .i64 (rotA d h).1) ∧ LogW w w' bd j (rotA d h).2.2 (rotA d h).2.1 u rs := by
  obtain ⟨X, H, g1, g2, g3⟩ := h0
  unfold rotA
  by_cases hr : h.runs d
  · simp only [if_pos hr]
    refine (hrotate_any g1 hr he (hb.bnd hr) (hb.next hr)).mono ?_
    rintro e w' ⟨rfl, hp⟩
    exact ⟨rfl, LogW.post g2 g3 hp⟩
  · simp only [if_neg hr]
    refine (hrotate_down g1 hr (Nat.le_of_lt hb.many)).mono ?_
    rintro e w' ⟨rfl, hp⟩
    exact ⟨rfl, LogW.below ⟨X, H, g1, g2, g3⟩ hp⟩
theorem LogW.ret (h0 : LogW w wr bd j d h u rs) (he : LEnv w) (hb : HB d h) (n : Int) :
    Calls Tryz.prog 23 #[.pointer (some ⟨j, 0, none⟩), .int .i64 n] wr fun e w' => e = .returned (.int .i64 (retA n d h).1) ∧ LogW w w' bd j (retA n d h).2.2 (retA n d h).2.1 u rs := by
  obtain ⟨X, H, g1, g2, g3⟩ := h0
  unfold retA
  by_cases hr : h.runs d
  · simp only [if_pos hr]
    refine (hretain_any g1 hr he (hb.bnd hr) n).mono ?_
    rintro e w' ⟨rfl, hp⟩
    exact ⟨rfl, LogW.post g2 g3 hp⟩
  · simp only [if_neg hr]
    refine (hretain_down g1 hr n).mono ?_
    rintro e w' ⟨rfl, hp⟩
    exact ⟨rfl, LogW.below ⟨X, H, g1, g2, g3⟩ hp⟩
theorem LogW.crash (h0 : LogW w wr bd j d h u rs) (kv : Value) (keep : List Int) (hk : KeepR wr (fun k => w.heap.size ≤ k) kv keep) (hkl : keep.length ≤ 1000000) :
    Calls Tryz.prog 26 #[.pointer (some ⟨bd, 0, none⟩), kv] wr fun e w' => e = .returned (.int .i64 (d.crash keep).1) ∧ LogW w w' bd j (d.crash keep).2 h u rs := by
  obtain ⟨X, H, g1, g2, g3⟩ := h0
  refine (g1.live.crash kv keep (hk.mono fun k e => e.2) (by omega)).mono ?_
  rintro e w' ⟨rfl, hl, hK⟩
  exact ⟨rfl, LogW.turn g1 g2 g3 hl hK⟩
theorem LogW.fail (h0 : LogW w wr bd j d h u rs) (n : Int) (hn : n ≤ 9223372036854775807) (kv : Value) (keep : List Int) (hk : KeepR wr (fun k => w.heap.size ≤ k) kv keep) (hkl : keep.length ≤ 1000000) :
    Calls Tryz.prog 29 #[.pointer (some ⟨bd, 0, none⟩), .int .i64 n, kv] wr fun e w' => e = .returned (.int .i64 (d.failAt n keep).1) ∧ LogW w w' bd j (d.failAt n keep).2 h u rs := by
  obtain ⟨X, H, g1, g2, g3⟩ := h0
  refine (g1.live.fail n hn kv keep hk (by omega)).mono ?_
  rintro e w' ⟨rfl, hl, hK⟩
  exact ⟨rfl, LogW.turn g1 g2 g3 hl hK⟩
theorem LogW.start (h0 : LogW w wr bd j d h u rs) :
    Calls Tryz.prog 31 #[.pointer (some ⟨bd, 0, none⟩)] wr fun e w' => e = .returned (.int .i64 d.start.1) ∧ LogW w w' bd j d.start.2 h u rs := by
  obtain ⟨X, H, g1, g2, g3⟩ := h0
  refine g1.live.start.mono ?_
  rintro e w' ⟨rfl, hl, hK⟩
  exact ⟨rfl, LogW.turn g1 g2 g3 hl hK⟩
theorem LogW.up (h0 : LogW w wr bd j d h u rs) : Calls Tryz.prog 30 #[.pointer (some ⟨bd, 0, none⟩)] wr fun e w' => e = .returned (.bool (!d.off)) ∧ wr = w' := by
  obtain ⟨X, H, g1, g2, g3⟩ := h0
  exact g1.live.up
/-- The log is opened anew. -/
theorem LogW.opened (h0 : LogW w wr bd j d h u rs) (he : LEnv w) (hoff : d.off = false) (hs : LSt d l t s dr) (hb : nextOf l ≤ 999999999) (h9 : (openP d l t).1 = 0) :
    Calls Tryz.prog 22 #[.pointer (some ⟨bd, 0, none⟩)] wr fun e w' => ∃ j', e = .returned (.tuple #[.pointer (some ⟨j', 0, none⟩), .int .i64 0]) ∧ LogW w w' bd j' (openP d l t).2 ⟨d.starts, false, l⟩ u rs := by
  obtain ⟨X, H, g1, g2, g3⟩ := h0
  refine (hopen_any g1.live hoff he hs hb).mono ?_
  rintro e w' (⟨_, j', rfl, N, hN, hS, hK⟩ | ⟨e1, _⟩)
  · refine ⟨j', rfl, _, _, hS, OwnRow.chg g2 (show Chg (fun k => ¬ X k) wr w' from hK) fun b hb e => e (g3 b hb).1, fun b hb => ⟨.inl (g3 b hb).1, fun e => ?_⟩⟩
    have h1 := (hN b e).1
    have h2 := (OwnRow.lt g2 b hb).2
    omega
  · exact absurd h9 e1
/-- .. or there is no room. -/
theorem LogW.unopened (h0 : LogW w wr bd j d h u rs) (he : LEnv w) (hoff : d.off = false) (hs : LSt d l t s dr) (hb : nextOf l ≤ 999999999) {r : Int} (h9 : (openP d l t).1 = r) (hr : r ≠ 0) :
    Calls Tryz.prog 22 #[.pointer (some ⟨bd, 0, none⟩)] wr fun e w' => e = .returned (.tuple #[.pointer none, .int .i64 r]) ∧ Below w.heap.size w w' := by
  obtain ⟨X, H, g1, g2, g3⟩ := h0
  refine (hopen_any g1.live hoff he hs hb).mono ?_
  rintro e w' (⟨e1, _⟩ | ⟨_, rfl, hl, hK⟩)
  · exact absurd (h9.symm.trans e1) hr
  · rw [h9]
    exact ⟨rfl, hl.below⟩
/-- A span is put behind the row. -/
theorem LogW.push (h0 : LogW w wr bd j d h u rs) (hl : rs.length ≤ 100000000) (x : Sp.Span) (hw : w' = wr.alloc (.cells (spRow x).toArray 31 (0, 0))) :
    ∃ u' w2, (Builtin.append_ #[22, 22] 22 #[u, .slice (some ⟨wr.heap.size, 0, none⟩) 1 1]).run Tryz.prog w' = .ok u' w2 ∧ LogW w w2 bd j d h u' (rs ++ [x]) ∧ wr.heap.size ≤ w2.heap.size ∧ Chg (fun b => u.ownBlock = some b) wr w2 := by
  obtain ⟨X, H, h1, h3, h4⟩ := h0
  have hb : Below wr.heap.size wr w' := by rw [hw]; exact (Below.refl _ _).alloc (Nat.le_refl _) _
  have hkb : Blk w' wr.heap.size 31 (spRow x).toArray := by rw [hw]; exact Blk.alloc_new wr _ _
  have hz := h1.size
  obtain ⟨u', w2, e1, e2, e3, e4⟩ := run_append_rows (ty := 22) spRow_len (by omega) under_spans Tryz.info_span (by rfl) (by omega) (OwnRow.below h3 hb) (.slice (some ⟨wr.heap.size, 0, none⟩) 1 1) [x] (RdRow.one hkb rfl) (fun a _ => spRow_one a) (by simp; omega) (by simp; omega) (Nat.le_trans hz hb.size)
  have hs1 := h1.below hb
  have hs2 := hs1.row (chg_of_grown e3) fun b hb => ⟨(h4 b hb).1, (h4 b hb).2, (OwnRow.lt h3 b hb).1⟩
  have hc2 : Chg (fun b => u.ownBlock = some b) wr w2 := (Chg.of_below hb).trans (chg_of_grown e3)
  refine ⟨u', w2, e1, ⟨_, H, hs2, e2, fun b hb2 => ?_⟩, hc2.size, hc2⟩
  rcases e4 with e4 | e4
  · rw [e4] at hb2
    exact ⟨.inl (h4 b hb2).1, (h4 b hb2).2⟩
  · rw [e4] at hb2
    injection hb2 with hb2
    have hlt := OwnRow.lt e2 b (by rw [e4, hb2])
    exact ⟨.inr ⟨by omega, hlt.2⟩, fun e => by have := (hs1.new b e).2; omega⟩
/-! ### bounds of a log that runs -/
theorem Run.bnd (r : Run d h s) (hn : nextOf h.l ≤ 999999999) : SgsBnd h.l := by
  refine ⟨r.file.sgs.may, fun a ha => Nat.le_trans ((nextOf_above r.chain).1 a ha) hn, fun a ha => ?_, ?_⟩
  · have h1 := spans_le h.l a ha
    have h2 := r.file.recs_le.1
    omega
  · have := r.file.recs_le.2; omega
theorem Run.hb (r : Run d h s) (hn : nextOf h.l ≤ 999999999) : HB d h := ⟨by have := r.file.recs_le.2; omega, fun _ => r.bnd hn, fun _ => hn⟩
/-- All that is told of a log that runs. -/
theorem LogW.all (h0 : LogW w wr bd j d h u rs) (he : LEnv w) (r : Run d h s) (hn : nextOf h.l ≤ 999999999) :
    Calls Tryz.prog 27 #[.pointer (some ⟨j, 0, none⟩)] wr fun e w' => ∃ u2, e = .returned (.tuple #[u2, .bool true]) ∧ OwnSp w' wr.heap.size u2 (sures h.l s) ∧ Below wr.heap.size wr w' := by
  obtain ⟨X, H, h1, h3, h4⟩ := h0
  obtain ⟨e1, e2⟩ := r.read
  have h5 := sures_len r.chain s
  have h6 := first_le_sure r.chain s
  have h7 := sureOf_le h.l s
  exact hall_any h1 (he.below h1.live.below) (r.bnd hn) r.runs (by rw [numbered_length]; have := r.file.recs_le.1; omega) (by rw [e2]; omega) (f := firstOf h.l) rfl (by rw [e2]; exact e1) (by rw [e2, h5]; omega)
theorem LogW.first (h0 : LogW w wr bd j d h u rs) (r : Run d h s) (hn : nextOf h.l ≤ 999999999) :
    Calls Tryz.prog 17 #[.pointer (some ⟨j, 0, none⟩)] wr fun e w' => e = .returned (.int .i64 (firstOf h.l : Nat)) ∧ Below wr.heap.size wr w' := by
  obtain ⟨X, H, h1, h3, h4⟩ := h0
  have := hfirst_any h1 (r.bnd hn).many
  rw [if_pos r.runs] at this
  exact this
theorem LogW.sure (h0 : LogW w wr bd j d h u rs) (he : LEnv w) (r : Run d h s) (hn : nextOf h.l ≤ 999999999) :
    Calls Tryz.prog 15 #[.pointer (some ⟨j, 0, none⟩)] wr fun e w' => e = .returned (.int .i64 (sureOf h.l s : Nat)) ∧ Below wr.heap.size wr w' := by
  obtain ⟨X, H, h1, h3, h4⟩ := h0
  have := hsure_any h1 (he.below h1.live.below) (r.bnd hn)
  rw [if_pos r.runs, r.read.2] at this
  exact this
theorem LogW.end_ (h0 : LogW w wr bd j d h u rs) (r : Run d h s) (hn : nextOf h.l ≤ 999999999) :
    Calls Tryz.prog 16 #[.pointer (some ⟨j, 0, none⟩)] wr fun e w' => e = .returned (.int .i64 (nextOf h.l : Nat)) ∧ Below wr.heap.size wr w' := by
  obtain ⟨X, H, h1, h3, h4⟩ := h0
  have := hendn_any h1 (r.bnd hn).many (by omega)
  rw [if_pos r.runs] at this
  exact this
theorem LogW.end0 (h0 : LogW w wr bd j d h u rs) (hr : ¬ h.runs d) (hm : h.l.length ≤ 1000000) (hn : nextOf h.l ≤ 1000000000) :
    Calls Tryz.prog 16 #[.pointer (some ⟨j, 0, none⟩)] wr fun e w' => e = .returned (.int .i64 0) ∧ Below wr.heap.size wr w' := by
  obtain ⟨X, H, h1, h3, h4⟩ := h0
  have := hendn_any h1 hm hn
  rw [if_neg hr] at this
  exact this
end
end Go.Proofs.YtiepipcankhdnaaGreatDoor

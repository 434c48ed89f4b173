/- What the laws on a host's log lean on: a log newly opened; rows beside a log; a log that is calm. 'HostlogBack', walked: the records are appended. A calm log in memory: appended to, rotated, synced, read whole, retained: walked. -/
import Derived.Test.YtiepipcankhdnaaGreatDoorHlDx
import Derived.Test.YtiepipcankhdnaaGreatDoorHlTab
import Derived.Test.YtiepipcankhdnaaGreatDoorJ6
import Derived.Test.YtiepipcankhdnaaGreatDoorHlY
namespace Go.Proofs.YtiepipcankhdnaaGreatDoor
set_option linter.unusedSimpArgs false
set_option linter.unusedVariables false
set_option maxRecDepth 100000
open Go.RowKit Go.Maps
open Dsk

section
variable {w0 w w' : World} {X H S : Nat → Prop} {v lv : Value} {d d' : Dk} {j B : Nat} {h : Hl} {vs : List SegV} {l : List Sg} {rs : List Sp.Span} {k : Nat}
/-- A row of one's own is turned, or something is made. -/
theorem HS.row (h0 : HS w0 X H w v d j h) (x : Chg S w w') (hS : ∀ b, S b → X b ∧ ¬ H b ∧ w0.heap.size ≤ b) : HS w0 (Also X w w') H w' v d j h := by
  obtain ⟨live, ⟨lv, vs, hb, hr, hi⟩, sub, new⟩ := h0
  exact ⟨live.addChg x fun b hb => ⟨(hS b hb).1, (hS b hb).2.2⟩, ⟨lv, vs, hb.chg x fun e => (hS j e).2.1 (hi j (.inl rfl)), hr.chg x fun b hb e => (hS b e).2.1 (hi b (.inr hb)), hi⟩, fun b hb => .inl (sub b hb), fun b hb => ⟨(new b hb).1, Nat.lt_of_lt_of_le (new b hb).2 x.size⟩⟩
theorem HS.size (h0 : HS w0 X H w v d j h) : w0.heap.size ≤ w.heap.size := h0.live.size
theorem Calm.bnd (c : Calm d h rs k) (hk : k ≤ 100000) : SgsBnd h.l := by
  obtain ⟨s, hs⟩ := c.file
  refine ⟨hs.sgs.may, fun a ha => ?_, fun a ha => ?_, ?_⟩
  · have := c.firsts a ha; omega
  · have h1 := spans_le h.l a ha
    rw [c.recs] at h1
    have := c.long
    omega
  · have := c.many; omega
theorem Calm.num (c : Calm d h rs k) (hk : k ≤ 100000) : (numbered h.l).length ≤ 1000000 := by
  rw [numbered_length, c.recs]
  have := c.long
  omega
set_option maxHeartbeats 2000000 in
/-- A log on a new disk. -/
theorem hopened_any (c : Nat) (hc1 : 1 ≤ c) (hc2 : c ≤ 1048576) (w : World) :
    Calls Tryz.prog 10 #[.int .i64 c] w fun e w' => ∃ bd j X H, e = .returned (.tuple #[.pointer (some ⟨bd, 0, none⟩), .pointer (some ⟨j, 0, none⟩)]) ∧ HS w X H w' (.pointer (some ⟨bd, 0, none⟩)) (Dk.new c) j ⟨0, false, []⟩ := by
  go_enter Tryz.func10, Tryz.ntmps10
  go_wp2_with fail
  refine (live_new c w hc1 hc2).mono ?_
  rintro e w1 ⟨v, rfl, hl1⟩
  obtain ⟨bd, rfl⟩ := hl1.ptr
  have HL1 := Lib.hid hl1
  clear hl1
  go_wp2_with fail
  refine (hopen_new HL1.out rfl rfl).mono ?_
  rintro e w2 ⟨j, rfl, N, hN, hs, hk⟩
  have HHS2 := Lib.hid hs
  clear hN hs hk
  go_wp2_with fail
  refine bodyPost_ret (v := .tuple #[.pointer (some ⟨bd, 0, none⟩), .pointer (some ⟨j, 0, none⟩)]) (by simp [results, Tryz.results10, go_sem]) rfl ?_
  exact ⟨bd, j, _, _, rfl, HHS2.out⟩
/-- Those that may be. -/
def mays (l : List Sp.Span) : List Sp.Span := l.filter fun x => decide (Sp.May x)
theorem mays_len (l : List Sp.Span) : (mays l).length ≤ l.length := List.length_filter_le _ _
theorem mays_yes (l : List Sp.Span) (k : Nat) (hk : k < l.length) (h : Sp.May l[k]) : mays (l.take (k + 1)) = mays (l.take k) ++ [l[k]] := by
  rw [List.take_succ_eq_append_getElem hk]
  unfold mays
  rw [List.filter_append]
  simp [h]
theorem mays_no (l : List Sp.Span) (k : Nat) (hk : k < l.length) (h : ¬ Sp.May l[k]) : mays (l.take (k + 1)) = mays (l.take k) := by
  rw [List.take_succ_eq_append_getElem hk]
  unfold mays
  rw [List.filter_append]
  simp [h]
theorem Calm.more {k' : Nat} (c : Calm d h rs k) (hk : k ≤ k') : Calm d h rs k' := ⟨c.off, c.fail, c.room, c.st, c.lost, c.recs, c.first, Nat.le_trans c.many hk, Nat.le_trans c.long hk, c.file⟩
theorem Calmed.more {k' : Nat} (c : Calmed d h rs k) (hk : k ≤ k') : Calmed d h rs k' := ⟨c.toCalm.more hk, c.all⟩
end
end Go.Proofs.YtiepipcankhdnaaGreatDoor
namespace Go.Proofs.YtiepipcankhdnaaGreatDoor
set_option linter.unusedSimpArgs false
set_option linter.unusedVariables false
set_option maxRecDepth 100000
open Go.RowKit Go.Maps
open Dsk

/-- What holds behind so many spans. -/
def BackInv (w wr : World) (bd j k : Nat) (l : List Sp.Span) (u : Value) : Prop :=
  ∃ d h X H, HS w X H wr (.pointer (some ⟨bd, 0, none⟩)) d j h ∧ Calm d h (mays (l.take k)) (2 * k) ∧ OwnSp wr w.heap.size u (mays (l.take k)) ∧ ∀ b, u.ownBlock = some b → X b ∧ ¬ H b
theorem BackInv.below {w wr w' : World} {bd j k : Nat} {l : List Sp.Span} {u : Value} (h : BackInv w wr bd j k l u) (x : Below wr.heap.size wr w') : BackInv w w' bd j k l u := by
  obtain ⟨d, hh, X, H, h1, h2, h3, h4⟩ := h
  exact ⟨d, hh, X, H, h1.below x, h2, OwnRow.below h3 x, h4⟩
theorem Below.old {B : Nat} {a b : World} (h : Below B a b) {p : Addr} {u : Value} (hc : a.cell? p = some u) (hp : p.block < B) : b.cell? p = some u := (h.cell hp).trans hc
section
variable {w wr w' : World} {bd j k : Nat} {l : List Sp.Span} {u : Value}
/-- The span is appended to the list of those that are wanted. -/
theorem BackInv.push (h : BackInv w wr bd j k l u) (hk : k < l.length) (hm : Sp.May l[k]) (hl : l.length ≤ 100) (hw : w' = wr.alloc (.cells (spRow l[k]).toArray 31 (0, 0))) :
    ∃ u' w2, (Builtin.append_ #[22, 22] 22 #[u, .slice (some ⟨wr.heap.size, 0, none⟩) 1 1]).run Tryz.prog w' = .ok u' w2 ∧ Below w.heap.size w w2 ∧
      ∃ d h X H, HS w X H w2 (.pointer (some ⟨bd, 0, none⟩)) d j h ∧ Calm d h (mays (l.take k)) (2 * k) ∧ OwnSp w2 w.heap.size u' (mays (l.take (k + 1))) ∧ ∀ b, u'.ownBlock = some b → X b ∧ ¬ H b := by
  obtain ⟨d, hh, X, H, h1, h2, h3, h4⟩ := h
  have hb : Below wr.heap.size wr w' := by rw [hw]; exact (Below.refl _ _).alloc (Nat.le_refl _) _
  have hkb : Blk w' wr.heap.size 31 (spRow l[k]).toArray := by rw [hw]; exact Blk.alloc_new wr _ _
  have hlen := mays_len (l.take k)
  rw [List.length_take] at hlen
  have hz := h1.size
  obtain ⟨u', w2, e1, e2, e3, e4⟩ := run_append_rows (ty := 22) spRow_len (by omega) under_spans Tryz.info_span (by rfl) (by omega) (OwnRow.below h3 hb) (.slice (some ⟨wr.heap.size, 0, none⟩) 1 1) [l[k]] (RdRow.one hkb rfl) (fun a _ => spRow_one a) (by simp; omega) (by simp; omega) (Nat.le_trans hz hb.size)
  have hs1 := h1.below hb
  have hs2 := hs1.row (chg_of_grown e3) fun b hb => ⟨(h4 b hb).1, (h4 b hb).2, (OwnRow.lt h3 b hb).1⟩
  refine ⟨u', w2, e1, hs2.live.below, d, hh, _, H, hs2, h2, by rw [mays_yes l k hk hm]; exact e2, fun b hb2 => ?_⟩
  rcases e4 with e4 | e4
  · rw [e4] at hb2
    exact ⟨.inl (h4 b hb2).1, (h4 b hb2).2⟩
  · rw [e4] at hb2
    injection hb2 with hb2
    have hlt := OwnRow.lt e2 b (by rw [e4, hb2])
    exact ⟨.inr ⟨by omega, hlt.2⟩, fun e => by have := (hs1.new b e).2; omega⟩
/-- What holds while the record is being appended. -/
def BackMid (w wr : World) (bd j k : Nat) (l : List Sp.Span) (u : Value) : Prop :=
  ∃ d h X H, HS w X H wr (.pointer (some ⟨bd, 0, none⟩)) d j h ∧ Calm d h (mays (l.take k)) (2 * k) ∧ OwnSp wr w.heap.size u (mays (l.take (k + 1))) ∧ ∀ b, u.ownBlock = some b → X b ∧ ¬ H b
def BackDone (w wr : World) (bd j k n : Nat) (l : List Sp.Span) (u : Value) : Prop :=
  ∃ d h X H, HS w X H wr (.pointer (some ⟨bd, 0, none⟩)) d j h ∧ Calm d h (mays (l.take k)) n ∧ OwnSp wr w.heap.size u (mays (l.take k)) ∧ ∀ b, u.ownBlock = some b → X b ∧ ¬ H b
theorem BackDone.below {n : Nat} (h : BackDone w wr bd j k n l u) (x : Below wr.heap.size wr w') : BackDone w w' bd j k n l u := by
  obtain ⟨d, hh, X, H, h1, h2, h3, h4⟩ := h
  exact ⟨d, hh, X, H, h1.below x, h2, OwnRow.below h3 x, h4⟩
theorem BackMid.below (h : BackMid w wr bd j k l u) (x : Below wr.heap.size wr w') : BackMid w w' bd j k l u := by
  obtain ⟨d, hh, X, H, h1, h2, h3, h4⟩ := h
  exact ⟨d, hh, X, H, h1.below x, h2, OwnRow.below h3 x, h4⟩
theorem BackMid.live (h : BackMid w wr bd j k l u) : Below w.heap.size w wr := by obtain ⟨_, _, _, _, h1, _⟩ := h; exact h1.live.below
theorem BackInv.live (h : BackInv w wr bd j k l u) : Below w.heap.size w wr := by obtain ⟨_, _, _, _, h1, _⟩ := h; exact h1.live.below
theorem BackDone.live {n : Nat} (h : BackDone w wr bd j k n l u) : Below w.heap.size w wr := by obtain ⟨_, _, _, _, h1, _⟩ := h; exact h1.live.below
theorem BackInv.no (h : BackInv w wr bd j k l u) (hk : k < l.length) (hm : ¬ Sp.May l[k]) : BackMid w wr bd j k l u := by
  obtain ⟨d, hh, X, H, h1, h2, h3, h4⟩ := h
  exact ⟨d, hh, X, H, h1, h2, by rw [mays_no l k hk hm]; exact h3, h4⟩
theorem spTurnHK {X H : Nat → Prop} {rs : List Sp.Span} (h : OwnSp wr w.heap.size u rs) (x : HK X H wr w') (hu : ∀ b, u.ownBlock = some b → X b ∧ ¬ H b) : OwnSp w' w.heap.size u rs :=
  OwnRow.chg h x fun b hb e => e.elim (fun e => e (hu b hb).1) (hu b hb).2
theorem plus_blocks {X H N : Nat → Prop} (hs : OwnSp wr w.heap.size u (mays l)) (hu : ∀ b, u.ownBlock = some b → X b ∧ ¬ H b) (hN : NewIn wr w' N) : ∀ b, u.ownBlock = some b → Plus X N b ∧ ¬ Plus H N b := fun b hb =>
  ⟨.inl (hu b hb).1, fun e => e.elim (hu b hb).2 fun e => by have h1 := (hN b e).1; have h2 := (OwnRow.lt hs b hb).2; omega⟩
/-- The record is appended to the log, or refused. -/
theorem BackMid.app (h : BackMid w wr bd j k l u) (he : LEnv w) (hk : k < l.length) (hl : l.length ≤ 100) (h1 : l[k].service.size ≤ maxLen) (h2 : l[k].host.size ≤ maxLen) (h3 : l[k].note.size ≤ maxLen) :
    Calls Tryz.prog 12 #[.pointer (some ⟨j, 0, none⟩), spV l[k]] wr fun e w' => e = .returned (.int .i64 (if Sp.May l[k] then 0 else 2)) ∧ BackDone w w' bd j (k + 1) (2 * k + 1) l u := by
  obtain ⟨d, hh, X, H, g1, g2, g3, g4⟩ := h
  have hb := g2.bnd (by omega)
  have hn := g2.next
  have hlo := g2.long
  have hma := g2.many
  refine (happend_any g1 g2.runs he hb (by omega) (by omega) l[k] h1 h2 h3).mono ?_
  rintro e w' ⟨rfl, N, hN, hs, hK⟩
  by_cases hm : Sp.May l[k]
  · obtain ⟨e0, c0⟩ := g2.app (by omega) l[k] hm
    rw [e0, if_pos hm]
    refine ⟨rfl, _, _, _, _, hs, ?_, spTurnHK g3 hK g4, plus_blocks g3 g4 hN⟩
    rw [mays_yes l k hk hm]
    exact c0
  · rw [app_bad d hh hm] at hs ⊢
    rw [if_neg hm]
    refine ⟨rfl, _, _, _, _, hs, ?_, spTurnHK g3 hK g4, plus_blocks g3 g4 hN⟩
    rw [mays_no l k hk hm]
    exact g2.more (by omega)
theorem BackDone.rot {n : Nat} (h : BackDone w wr bd j k n l u) (he : LEnv w) (hn : n ≤ 1000) :
    Calls Tryz.prog 13 #[.pointer (some ⟨j, 0, none⟩)] wr fun e w' => e = .returned (.int .i64 0) ∧ BackDone w w' bd j k (n + 1) l u := by
  obtain ⟨d, hh, X, H, g1, g2, g3, g4⟩ := h
  have hb := g2.bnd (by omega)
  have hnx := g2.next
  have hlo := g2.long
  refine (hrotate_any g1 g2.runs he hb (by omega)).mono ?_
  rintro e w' ⟨rfl, N, hN, hs, hK⟩
  obtain ⟨e0, c0⟩ := g2.rot (by omega)
  rw [e0]
  exact ⟨rfl, _, _, _, _, hs, c0, spTurnHK g3 hK g4, plus_blocks g3 g4 hN⟩
theorem BackDone.inv {n : Nat} (h : BackDone w wr bd j k n l u) (hn : n ≤ 2 * k) : BackInv w wr bd j k l u := by
  obtain ⟨d, hh, X, H, g1, g2, g3, g4⟩ := h
  exact ⟨d, hh, X, H, g1, g2.more hn, g3, g4⟩
end
end Go.Proofs.YtiepipcankhdnaaGreatDoor
namespace Go.Proofs.YtiepipcankhdnaaGreatDoor
set_option linter.unusedSimpArgs false
set_option linter.unusedVariables false
set_option maxRecDepth 100000
open Go.RowKit Go.Maps
open Dsk

def CalmAt (w wr : World) (bd j : Nat) (rs : List Sp.Span) (n : Nat) : Prop :=
  ∃ d h X H, HS w X H wr (.pointer (some ⟨bd, 0, none⟩)) d j h ∧ Calm d h rs n
section
variable {w wr w' : World} {bd j k n : Nat} {l : List Sp.Span} {u : Value} {rs : List Sp.Span} {d : Dk} {h : Hl} {X H : Nat → Prop}
theorem CalmAt.below (h : CalmAt w wr bd j rs n) (x : Below wr.heap.size wr w') : CalmAt w w' bd j rs n := by
  obtain ⟨d, hh, X, H, h1, h2⟩ := h
  exact ⟨d, hh, X, H, h1.below x, h2⟩
theorem CalmAt.live (h : CalmAt w wr bd j rs n) : Below w.heap.size w wr := by obtain ⟨_, _, _, _, h1, _⟩ := h; exact h1.live.below
theorem CalmAt.more {n' : Nat} (h : CalmAt w wr bd j rs n) (hn : n ≤ n') : CalmAt w wr bd j rs n' := by
  obtain ⟨d, hh, X, H, h1, h2⟩ := h
  exact ⟨d, hh, X, H, h1, h2.more hn⟩
theorem CalmAt.app (h : CalmAt w wr bd j (mays (l.take k)) n) (he : LEnv w) (hn : n ≤ 1000) (hk : k < l.length) (h1 : l[k].service.size ≤ maxLen) (h2 : l[k].host.size ≤ maxLen) (h3 : l[k].note.size ≤ maxLen) :
    Calls Tryz.prog 12 #[.pointer (some ⟨j, 0, none⟩), spV l[k]] wr fun e w' => e = .returned (.int .i64 (if Sp.May l[k] then 0 else 2)) ∧ CalmAt w w' bd j (mays (l.take (k + 1))) (n + 1) := by
  obtain ⟨d, hh, X, H, g1, g2⟩ := h
  have hb := g2.bnd (by omega)
  have hnx := g2.next
  have hlo := g2.long
  have hma := g2.many
  refine (happend_any g1 g2.runs he hb (by omega) (by omega) l[k] h1 h2 h3).mono ?_
  rintro e w' ⟨rfl, N, hN, hs, hK⟩
  by_cases hm : Sp.May l[k]
  · obtain ⟨e0, c0⟩ := g2.app (by omega) l[k] hm
    rw [e0, if_pos hm, mays_yes l k hk hm]
    exact ⟨rfl, _, _, _, _, hs, c0⟩
  · rw [app_bad d hh hm] at hs ⊢
    rw [if_neg hm, mays_no l k hk hm]
    exact ⟨rfl, _, _, _, _, hs, g2.more (by omega)⟩
theorem CalmAt.rot (h : CalmAt w wr bd j rs n) (he : LEnv w) (hn : n ≤ 1000) :
    Calls Tryz.prog 13 #[.pointer (some ⟨j, 0, none⟩)] wr fun e w' => e = .returned (.int .i64 0) ∧ CalmAt w w' bd j rs (n + 1) := by
  obtain ⟨d, hh, X, H, g1, g2⟩ := h
  have hb := g2.bnd (by omega)
  have hnx := g2.next
  have hlo := g2.long
  refine (hrotate_any g1 g2.runs he hb (by omega)).mono ?_
  rintro e w' ⟨rfl, N, hN, hs, hK⟩
  obtain ⟨e0, c0⟩ := g2.rot (by omega)
  rw [e0]
  exact ⟨rfl, _, _, _, _, hs, c0⟩
theorem CalmAt.sync (h : CalmAt w wr bd j rs n) (he : LEnv w) (hn : n ≤ 1000) :
    Calls Tryz.prog 14 #[.pointer (some ⟨j, 0, none⟩)] wr fun e w' => e = .returned (.int .i64 0) ∧ ∃ d h X H, HS w X H w' (.pointer (some ⟨bd, 0, none⟩)) d j h ∧ Calmed d h rs n := by
  obtain ⟨d, hh, X, H, g1, g2⟩ := h
  refine (hsync_any g1 g2.runs he (g2.bnd (by omega))).mono ?_
  rintro e w' ⟨rfl, hs, hK⟩
  obtain ⟨e0, c0, hsame⟩ := g2.sync
  rw [e0]
  exact ⟨rfl, _, _, _, _, hs, c0⟩
/-- All that is told of a log whose records are all sure. -/
theorem Left.bnd {m f : Nat} (c : Left d h rs m f) (hm : m ≤ 100000) (hr : rs.length ≤ 100000) : SgsBnd h.l := by
  refine ⟨c.may, fun a ha => ?_, fun a ha => ?_, by rw [c.many]; omega⟩
  · have := c.firsts a ha; omega
  · have h1 := spans_le h.l a ha
    rw [c.recs, List.length_drop] at h1
    omega
theorem Left.num {m f : Nat} (c : Left d h rs m f) (hr : rs.length ≤ 100000) : (numbered h.l).length ≤ 100000 := by
  rw [numbered_length, c.recs, List.length_drop]
  omega
theorem Left.all {m f : Nat} (c : Left d h rs m f) (h0 : HS w X H wr (.pointer (some ⟨bd, 0, none⟩)) d j h) (he : LEnv w) (hm : m ≤ 100000) (hr : rs.length ≤ 100000) :
    Calls Tryz.prog 27 #[.pointer (some ⟨j, 0, none⟩)] wr fun e w' => ∃ u, e = .returned (.tuple #[u, .bool true]) ∧ OwnSp w' wr.heap.size u (rs.drop f) ∧ Below wr.heap.size wr w' := by
  have hle := c.le
  refine hall_any h0 (he.below h0.live.below) (c.bnd hm hr) c.runs (c.num hr) (by rw [c.sure]; omega) (f := f) c.first ?_ (by rw [c.sure, List.length_drop]; omega)
  rw [c.sure]
  exact c.read hr
end
end Go.Proofs.YtiepipcankhdnaaGreatDoor

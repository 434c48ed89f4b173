/- 'HostlogBack', walked: the records are appended. -/
import Derived.Test.YtiepipcankhdnaaGreatDoorHlLw
namespace Go.Proofs.YtiepipcankhdnaaGreatDoor
set_option linter.unusedSimpArgs false
set_option linter.unusedVariables false
set_option maxRecDepth 100000
open Go.RowKit Go.Maps
open Dsk

/-- What holds behind so many spans. -/
def BackInv (w wr : World) (bd j k : Nat) (l : List Sp.Span) (u : Value) : Prop :=
  ∃ d h X H, HS w X H wr (.pointer (some ⟨bd, 0, none⟩)) d j h ∧ Calm d h (mays (l.take k)) (2 * k) ∧ OwnSp wr w.heap.size u (mays (l.take k)) ∧ ∀ b, u.ownBlock = some b → X b ∧ ¬ H b
theorem BackInv.below {w wr w' : World} {bd j k : Nat} {l : List Sp.Span} {u : Value} (h : BackInv w wr bd j k l u) (x : Below wr.heap.size wr w') : BackInv w w' bd j k l u := by
  obtain ⟨d, hh, X, H, h1, h2, h3, h4⟩ := h
  exact ⟨d, hh, X, H, h1.below x, h2, OwnRow.below h3 x, h4⟩
theorem Below.old {B : Nat} {a b : World} (h : Below B a b) {p : Addr} {u : Value} (hc : a.cell? p = some u) (hp : p.block < B) : b.cell? p = some u := (h.cell hp).trans hc
section
variable {w wr w' : World} {bd j k : Nat} {l : List Sp.Span} {u : Value}
/-- The span is appended to the list of those that are wanted. -/
theorem BackInv.push (h : BackInv w wr bd j k l u) (hk : k < l.length) (hm : Sp.May l[k]) (hl : l.length ≤ 100) (hw : w' = wr.alloc (.cells (spRow l[k]).toArray 31 (0, 0))) :
    ∃ u' w2, (Builtin.append_ #[22, 22] 22 #[u, .slice (some ⟨wr.heap.size, 0, none⟩) 1 1]).run Tryz.prog w' = .ok u' w2 ∧ Below w.heap.size w w2 ∧
      ∃ d h X H, HS w X H w2 (.pointer (some ⟨bd, 0, none⟩)) d j h ∧ Calm d h (mays (l.take k)) (2 * k) ∧ OwnSp w2 w.heap.size u' (mays (l.take (k + 1))) ∧ ∀ b, u'.ownBlock = some b → X b ∧ ¬ H b := by
  obtain ⟨d, hh, X, H, h1, h2, h3, h4⟩ := h
  have hb : Below wr.heap.size wr w' := by rw [hw]; exact (Below.refl _ _).alloc (Nat.le_refl _) _
  have hkb : Blk w' wr.heap.size 31 (spRow l[k]).toArray := by rw [hw]; exact Blk.alloc_new wr _ _
  have hlen := mays_len (l.take k)
  rw [List.length_take] at hlen
  have hz := h1.size
  obtain ⟨u', w2, e1, e2, e3, e4⟩ := run_append_rows (ty := 22) spRow_len (by omega) under_spans Tryz.info_span (by rfl) (by omega) (OwnRow.below h3 hb) (.slice (some ⟨wr.heap.size, 0, none⟩) 1 1) [l[k]] (RdRow.one hkb rfl) (fun a _ => spRow_one a) (by simp; omega) (by simp; omega) (Nat.le_trans hz hb.size)
  have hs1 := h1.below hb
  have hs2 := hs1.row (chg_of_grown e3) fun b hb => ⟨(h4 b hb).1, (h4 b hb).2, (OwnRow.lt h3 b hb).1⟩
  refine ⟨u', w2, e1, hs2.live.below, d, hh, _, H, hs2, h2, by rw [mays_yes l k hk hm]; exact e2, fun b hb2 => ?_⟩
  rcases e4 with e4 | e4
  · rw [e4] at hb2
    exact ⟨.inl (h4 b hb2).1, (h4 b hb2).2⟩
  · rw [e4] at hb2
    injection hb2 with hb2
    have hlt := OwnRow.lt e2 b (by rw [e4, hb2])
    exact ⟨.inr ⟨by omega, hlt.2⟩, fun e => by have := (hs1.new b e).2; omega⟩
/-- What holds while the record is being appended. -/
def BackMid (w wr : World) (bd j k : Nat) (l : List Sp.Span) (u : Value) : Prop :=
  ∃ d h X H, HS w X H wr (.pointer (some ⟨bd, 0, none⟩)) d j h ∧ Calm d h (mays (l.take k)) (2 * k) ∧ OwnSp wr w.heap.size u (mays (l.take (k + 1))) ∧ ∀ b, u.ownBlock = some b → X b ∧ ¬ H b
def BackDone (w wr : World) (bd j k n : Nat) (l : List Sp.Span) (u : Value) : Prop :=
  ∃ d h X H, HS w X H wr (.pointer (some ⟨bd, 0, none⟩)) d j h ∧ Calm d h (mays (l.take k)) n ∧ OwnSp wr w.heap.size u (mays (l.take k)) ∧ ∀ b, u.ownBlock = some b → X b ∧ ¬ H b
theorem BackDone.below {n : Nat} (h : BackDone w wr bd j k n l u) (x : Below wr.heap.size wr w') : BackDone w w' bd j k n l u := by
  obtain ⟨d, hh, X, H, h1, h2, h3, h4⟩ := h
  exact ⟨d, hh, X, H, h1.below x, h2, OwnRow.below h3 x, h4⟩
theorem BackMid.below (h : BackMid w wr bd j k l u) (x : Below wr.heap.size wr w') : BackMid w w' bd j k l u := by
  obtain ⟨d, hh, X, H, h1, h2, h3, h4⟩ := h
  exact ⟨d, hh, X, H, h1.below x, h2, OwnRow.below h3 x, h4⟩
theorem BackMid.live (h : BackMid w wr bd j k l u) : Below w.heap.size w wr := by obtain ⟨_, _, _, _, h1, _⟩ := h; exact h1.live.below
theorem BackInv.live (h : BackInv w wr bd j k l u) : Below w.heap.size w wr := by obtain ⟨_, _, _, _, h1, _⟩ := h; exact h1.live.below
theorem BackDone.live {n : Nat} (h : BackDone w wr bd j k n l u) : Below w.heap.size w wr := by obtain ⟨_, _, _, _, h1, _⟩ := h; exact h1.live.below
theorem BackInv.no (h : BackInv w wr bd j k l u) (hk : k < l.length) (hm : ¬ Sp.May l[k]) : BackMid w wr bd j k l u := by
  obtain ⟨d, hh, X, H, h1, h2, h3, h4⟩ := h
  exact ⟨d, hh, X, H, h1, h2, by rw [mays_no l k hk hm]; exact h3, h4⟩
theorem spTurnHK {X H : Nat → Prop} {rs : List Sp.Span} (h : OwnSp wr w.heap.size u rs) (x : HK X H wr w') (hu : ∀ b, u.ownBlock = some b → X b ∧ ¬ H b) : OwnSp w' w.heap.size u rs :=
  OwnRow.chg h x fun b hb e => e.elim (fun e => e (hu b hb).1) (hu b hb).2
theorem plus_blocks {X H N : Nat → Prop} (hs : OwnSp wr w.heap.size u (mays l)) (hu : ∀ b, u.ownBlock = some b → X b ∧ ¬ H b) (hN : NewIn wr w' N) : ∀ b, u.ownBlock = some b → Plus X N b ∧ ¬ Plus H N b := fun b hb =>
  ⟨.inl (hu b hb).1, fun e => e.elim (hu b hb).2 fun e => by have h1 := (hN b e).1; have h2 := (OwnRow.lt hs b hb).2; omega⟩
/-- The record is appended to the log, or refused. -/
theorem BackMid.app (h : BackMid w wr bd j k l u) (he : LEnv w) (hk : k < l.length) (hl : l.length ≤ 100) (h1 : l[k].service.size ≤ maxLen) (h2 : l[k].host.size ≤ maxLen) (h3 : l[k].note.size ≤ maxLen) :
    Calls Tryz.prog 12 #[.pointer (some ⟨j, 0, none⟩), spV l[k]] wr fun e w' => e = .returned (.int .i64 (if Sp.May l[k] then 0 else 2)) ∧ BackDone w w' bd j (k + 1) (2 * k + 1) l u := by
  obtain ⟨d, hh, X, H, g1, g2, g3, g4⟩ := h
  have hb := g2.bnd (by omega)
  have hn := g2.next
  have hlo := g2.long
  have hma := g2.many
  refine (happend_any g1 g2.runs he hb (by omega) (by omega) l[k] h1 h2 h3).mono ?_
  rintro e w' ⟨rfl, N, hN, hs, hK⟩
  by_cases hm : Sp.May l[k]
  · obtain ⟨e0, c0⟩ := g2.app (by omega) l[k] hm
    rw [e0, if_pos hm]
    refine ⟨rfl, _, _, _, _, hs, ?_, spTurnHK g3 hK g4, plus_blocks g3 g4 hN⟩
    rw [mays_yes l k hk hm]
    exact c0
  · rw [app_bad d hh hm] at hs ⊢
    rw [if_neg hm]
    refine ⟨rfl, _, _, _, _, hs, ?_, spTurnHK g3 hK g4, plus_blocks g3 g4 hN⟩
    rw [mays_no l k hk hm]
    exact g2.more (by omega)
theorem BackDone.rot {n : Nat} (h : BackDone w wr bd j k n l u) (he : LEnv w) (hn : n ≤ 1000) :
    Calls Tryz.prog 13 #[.pointer (some ⟨j, 0, none⟩)] wr fun e w' => e = .returned (.int .i64 0) ∧ BackDone w w' bd j k (n + 1) l u := by
  obtain ⟨d, hh, X, H, g1, g2, g3, g4⟩ := h
  have hb := g2.bnd (by omega)
  have hnx := g2.next
  have hlo := g2.long
  refine (hrotate_any g1 g2.runs he hb (by omega)).mono ?_
  rintro e w' ⟨rfl, N, hN, hs, hK⟩
  obtain ⟨e0, c0⟩ := g2.rot (by omega)
  rw [e0]
  exact ⟨rfl, _, _, _, _, hs, c0, spTurnHK g3 hK g4, plus_blocks g3 g4 hN⟩
theorem BackDone.inv {n : Nat} (h : BackDone w wr bd j k n l u) (hn : n ≤ 2 * k) : BackInv w wr bd j k l u := by
  obtain ⟨d, hh, X, H, g1, g2, g3, g4⟩ := h
  exact ⟨d, hh, X, H, g1, g2.more hn, g3, g4⟩
end
end Go.Proofs.YtiepipcankhdnaaGreatDoor

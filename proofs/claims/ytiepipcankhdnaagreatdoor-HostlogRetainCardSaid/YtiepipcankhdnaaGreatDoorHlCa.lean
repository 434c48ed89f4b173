/- A calm log in memory: appended to, rotated, synced, read whole, retained: walked. -/
import Derived.Test.YtiepipcankhdnaaGreatDoorHlBk
import Derived.Test.YtiepipcankhdnaaGreatDoorHlY
namespace Go.Proofs.YtiepipcankhdnaaGreatDoor
set_option linter.unusedSimpArgs false
set_option linter.unusedVariables false
set_option maxRecDepth 100000
open Go.RowKit Go.Maps
open Dsk

def CalmAt (w wr : World) (bd j : Nat) (rs : List Sp.Span) (n : Nat) : Prop :=
  ∃ d h X H, HS w X H wr (.pointer (some ⟨bd, 0, none⟩)) d j h ∧ Calm d h rs n
section
variable {w wr w' : World} {bd j k n : Nat} {l : List Sp.Span} {u : Value} {rs : List Sp.Span} {d : Dk} {h : Hl} {X H : Nat → Prop}
theorem CalmAt.below (h : CalmAt w wr bd j rs n) (x : Below wr.heap.size wr w') : CalmAt w w' bd j rs n := by
  obtain ⟨d, hh, X, H, h1, h2⟩ := h
  exact ⟨d, hh, X, H, h1.below x, h2⟩
theorem CalmAt.live (h : CalmAt w wr bd j rs n) : Below w.heap.size w wr := by obtain ⟨_, _, _, _, h1, _⟩ := h; exact h1.live.below
theorem CalmAt.more {n' : Nat} (h : CalmAt w wr bd j rs n) (hn : n ≤ n') : CalmAt w wr bd j rs n' := by
  obtain ⟨d, hh, X, H, h1, h2⟩ := h
  exact ⟨d, hh, X, H, h1, h2.more hn⟩
theorem CalmAt.app (h : CalmAt w wr bd j (mays (l.take k)) n) (he : LEnv w) (hn : n ≤ 1000) (hk : k < l.length) (h1 : l[k].service.size ≤ maxLen) (h2 : l[k].host.size ≤ maxLen) (h3 : l[k].note.size ≤ maxLen) :
    Calls Tryz.prog 12 #[.pointer (some ⟨j, 0, none⟩), spV l[k]] wr fun e w' => e = .returned (.int .i64 (if Sp.May l[k] then 0 else 2)) ∧ CalmAt w w' bd j (mays (l.take (k + 1))) (n + 1) := by
  obtain ⟨d, hh, X, H, g1, g2⟩ := h
  have hb := g2.bnd (by omega)
  have hnx := g2.next
  have hlo := g2.long
  have hma := g2.many
  refine (happend_any g1 g2.runs he hb (by omega) (by omega) l[k] h1 h2 h3).mono ?_
  rintro e w' ⟨rfl, N, hN, hs, hK⟩
  by_cases hm : Sp.May l[k]
  · obtain ⟨e0, c0⟩ := g2.app (by omega) l[k] hm
    rw [e0, if_pos hm, mays_yes l k hk hm]
    exact ⟨rfl, _, _, _, _, hs, c0⟩
  · rw [app_bad d hh hm] at hs ⊢
    rw [if_neg hm, mays_no l k hk hm]
    exact ⟨rfl, _, _, _, _, hs, g2.more (by omega)⟩
theorem CalmAt.rot (h : CalmAt w wr bd j rs n) (he : LEnv w) (hn : n ≤ 1000) :
    Calls Tryz.prog 13 #[.pointer (some ⟨j, 0, none⟩)] wr fun e w' => e = .returned (.int .i64 0) ∧ CalmAt w w' bd j rs (n + 1) := by
  obtain ⟨d, hh, X, H, g1, g2⟩ := h
  have hb := g2.bnd (by omega)
  have hnx := g2.next
  have hlo := g2.long
  refine (hrotate_any g1 g2.runs he hb (by omega)).mono ?_
  rintro e w' ⟨rfl, N, hN, hs, hK⟩
  obtain ⟨e0, c0⟩ := g2.rot (by omega)
  rw [e0]
  exact ⟨rfl, _, _, _, _, hs, c0⟩
theorem CalmAt.sync (h : CalmAt w wr bd j rs n) (he : LEnv w) (hn : n ≤ 1000) :
    Calls Tryz.prog 14 #[.pointer (some ⟨j, 0, none⟩)] wr fun e w' => e = .returned (.int .i64 0) ∧ ∃ d h X H, HS w X H w' (.pointer (some ⟨bd, 0, none⟩)) d j h ∧ Calmed d h rs n := by
  obtain ⟨d, hh, X, H, g1, g2⟩ := h
  refine (hsync_any g1 g2.runs he (g2.bnd (by omega))).mono ?_
  rintro e w' ⟨rfl, hs, hK⟩
  obtain ⟨e0, c0, hsame⟩ := g2.sync
  rw [e0]
  exact ⟨rfl, _, _, _, _, hs, c0⟩
/-- All that is told of a log whose records are all sure. -/
theorem Left.bnd {m f : Nat} (c : Left d h rs m f) (hm : m ≤ 100000) (hr : rs.length ≤ 100000) : SgsBnd h.l := by
  refine ⟨c.may, fun a ha => ?_, fun a ha => ?_, by rw [c.many]; omega⟩
  · have := c.firsts a ha; omega
  · have h1 := spans_le h.l a ha
    rw [c.recs, List.length_drop] at h1
    omega
theorem Left.num {m f : Nat} (c : Left d h rs m f) (hr : rs.length ≤ 100000) : (numbered h.l).length ≤ 100000 := by
  rw [numbered_length, c.recs, List.length_drop]
  omega
theorem Left.all {m f : Nat} (c : Left d h rs m f) (h0 : HS w X H wr (.pointer (some ⟨bd, 0, none⟩)) d j h) (he : LEnv w) (hm : m ≤ 100000) (hr : rs.length ≤ 100000) :
    Calls Tryz.prog 27 #[.pointer (some ⟨j, 0, none⟩)] wr fun e w' => ∃ u, e = .returned (.tuple #[u, .bool true]) ∧ OwnSp w' wr.heap.size u (rs.drop f) ∧ Below wr.heap.size wr w' := by
  have hle := c.le
  refine hall_any h0 (he.below h0.live.below) (c.bnd hm hr) c.runs (c.num hr) (by rw [c.sure]; omega) (f := f) c.first ?_ (by rw [c.sure, List.length_drop]; omega)
  rw [c.sure]
  exact c.read hr
/-- From some element on. -/
theorem rdSp_drop {B g c f : Nat} {wz : World} (h : OwnSp wz B (.slice (some ⟨g, 0, none⟩) rs.length c) rs) (hf : f ≤ rs.length) (a : Option Addr) (ha : f < rs.length → a = some ⟨g, f * 8, none⟩) : RdSp wz (.slice a (rs.length - f) (c - f)) (rs.drop f) := by
  have hc : rs.length ≤ c := by
    obtain ⟨x, c', e, hc', _⟩ := OwnRow.rd spRow_len h
    injection e with _ _ e
    omega
  refine ⟨a, c - f, by rw [List.length_drop], by rw [List.length_drop]; omega, fun j hj => ?_⟩
  rw [List.length_drop] at hj
  obtain ⟨g', c', e, _, _, hlt, hcell⟩ := OwnRow.at_ spRow_len h (f + j) (by omega)
  injection e with e _ _
  injection e with e
  injection e with e _ _
  subst e
  refine ⟨g, f * 8, ha (by omega), hlt, fun i u hu => ?_⟩
  rw [List.getElem_drop] at hu
  have := (hcell i u hu).1
  rw [show f * 8 + j * 8 + i = (f + j) * 8 + i by rw [Nat.add_mul]]
  exact this
theorem rdSp_dropO {B c f : Nat} {ux : Option Addr} {wz : World} (h : OwnSp wz B (.slice ux rs.length c) rs) (hf : f ≤ rs.length) : RdSp wz (.slice (Option.map (fun x => x.add (f * 8)) ux) (rs.length - f) (c - f)) (rs.drop f) := by
  rcases h.2 with ⟨e, hn⟩ | ⟨g, cap, cur, e, _⟩
  · injection e with e1 e2 e3
    refine ⟨_, _, by rw [List.length_drop], by rw [List.length_drop]; omega, fun j hj => ?_⟩
    rw [List.length_drop] at hj
    omega
  · injection e with e1 e2 e3
    subst e1
    exact rdSp_drop h hf _ fun _ => by simp [add_none]
theorem rdSp_dropE {B c f : Nat} {ux : Option Addr} {wz : World} (h : OwnSp wz B (.slice ux rs.length c) rs) (hf : f ≤ rs.length) (e : c = f) : RdSp wz (.slice ux (rs.length - f) 0) (rs.drop f) := by
  have hc : rs.length ≤ c := by
    obtain ⟨x, c', e, hc', _⟩ := OwnRow.rd spRow_len h
    injection e with _ _ e
    omega
  refine ⟨_, _, by rw [List.length_drop], by rw [List.length_drop]; omega, fun j hj => ?_⟩
  rw [List.length_drop] at hj
  omega
end
end Go.Proofs.YtiepipcankhdnaaGreatDoor

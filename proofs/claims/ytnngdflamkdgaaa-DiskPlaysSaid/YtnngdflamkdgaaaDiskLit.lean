/- The chapter's example of a disk. -/
import Derived.Test.YtnngdflamkdgaaaLiveB
namespace Go.Proofs.Ytnngdflamkdgaaa
set_option maxRecDepth 100000
open Go.RowKit Go.Maps
open Dsk

theorem lit_le {s : ByteArray} (h : s.size ≤ 1000) : s.size ≤ maxLen := by unfold maxLen; omega
section
variable {w0 w : World} {X : Nat → Prop} {v : Value} {d d' : Dk} {r : Int}
theorem Live.append' (h : Live w0 X w v d) (name s : ByteArray) {n t : Str} (hn : name.data.toList = n) (ht : s.data.toList = t) (hr : (d.append n t).1 = r) (hd : (d.append n t).2 = d') (h1 : name.size ≤ 1000) (h2 : s.size ≤ 1000) :
    Calls Try.prog 11 #[v, .string name, .string s] w fun e w' => e = .returned (.int .i64 r) ∧ Live w0 X w' v d' := by
  subst hn ht hr hd
  exact (h.append name s (lit_le h1) (lit_le h2)).mono fun _ _ x => ⟨x.1, x.2.1⟩
theorem Live.sync' (h : Live w0 X w v d) (name : ByteArray) {n : Str} (hn : name.data.toList = n) (hr : (d.sync n).1 = r) (hd : (d.sync n).2 = d') (h1 : name.size ≤ 1000) :
    Calls Try.prog 12 #[v, .string name] w fun e w' => e = .returned (.int .i64 r) ∧ Live w0 X w' v d' := by
  subst hn hr hd
  exact (h.sync name (lit_le h1)).mono fun _ _ x => ⟨x.1, x.2.1⟩
theorem Live.rename' (h : Live w0 X w v d) (name s : ByteArray) {n t : Str} (hn : name.data.toList = n) (ht : s.data.toList = t) (hr : (d.rename n t).1 = r) (hd : (d.rename n t).2 = d') (h1 : name.size ≤ 1000) (h2 : s.size ≤ 1000) :
    Calls Try.prog 14 #[v, .string name, .string s] w fun e w' => e = .returned (.int .i64 r) ∧ Live w0 X w' v d' := by
  subst hn ht hr hd
  exact (h.rename name s (lit_le h1) (lit_le h2)).mono fun _ _ x => ⟨x.1, x.2.1⟩
theorem Live.remove' (h : Live w0 X w v d) (name : ByteArray) {n : Str} (hn : name.data.toList = n) (hr : (d.remove n).1 = r) (hd : (d.remove n).2 = d') (h1 : name.size ≤ 1000) :
    Calls Try.prog 23 #[v, .string name] w fun e w' => e = .returned (.int .i64 r) ∧ Live w0 X w' v d' := by
  subst hn hr hd
  exact (h.remove name (lit_le h1)).mono fun _ _ x => ⟨x.1, x.2.1⟩
theorem Live.start' (h : Live w0 X w v d) (hr : d.start.1 = r) (hd : d.start.2 = d') :
    Calls Try.prog 15 #[v] w fun e w' => e = .returned (.int .i64 r) ∧ Live w0 X w' v d' := by
  subst hr hd
  exact h.start.mono fun _ _ x => ⟨x.1, x.2.1⟩
theorem Live.read' (h : Live w0 X w v d) (name : ByteArray) {n : Str} {x : ByteArray} (hn : name.data.toList = n) (hx : x.data.toList = (d.read n).1) (hr : (d.read n).2 = r) (h1 : name.size ≤ 1000) :
    Calls Try.prog 16 #[v, .string name] w fun e w' => e = .returned (.tuple #[.string x, .int .i64 r]) ∧ Below w.heap.size w w' := by
  subst hn hr
  refine (h.read name (lit_le h1)).mono fun _ _ y => ⟨?_, y.2⟩
  rw [y.1, ← hx]
/-- A row of numbers that was just laid. -/
theorem keepR_new (w : World) (zs : List Int) (S : Nat → Prop) (hS : ¬ S w.heap.size) : KeepR (w.alloc (.cells (zs.map (Value.int .i64)).toArray 3 (0, 0))) S (.slice (some ⟨w.heap.size, 0, none⟩) zs.length zs.length) zs := by
  refine ⟨some ⟨w.heap.size, 0, none⟩, zs.length, rfl, fun e => (by cases e), fun j hj => ⟨w.heap.size, 0, rfl, by simp, hS, ?_⟩⟩
  rw [(Blk.alloc_new w _ _).cell]
  simp [hj]
/-- A crash with a list that was just laid. -/
theorem Live.crashLit (h : Live w0 X w v d) (zs : List Int) (hz : zs.length ≤ 1000) (hr : (d.crash zs).1 = r) (hd : (d.crash zs).2 = d') :
    Calls Try.prog 35 #[v, .slice (some ⟨w.heap.size, 0, none⟩) zs.length zs.length] (w.alloc (.cells (zs.map (Value.int .i64)).toArray 3 (0, 0))) fun e w' => e = .returned (.int .i64 r) ∧ Live w0 X w' v d' := by
  subst hr hd
  have hb : Below w.heap.size w (w.alloc (.cells (zs.map (Value.int .i64)).toArray 3 (0, 0))) := (Below.refl _ _).alloc (Nat.le_refl _) _
  refine ((h.add hb).crash _ zs (keepR_new w zs _ fun e => e.1 (.inr ⟨Nat.le_refl _, by simp⟩)) (by omega)).mono fun _ _ x => ⟨x.1, x.2.1.drop fun k hk => .inl hk⟩
theorem Live.failLit (h : Live w0 X w v d) (n : Int) (hn : n ≤ 9223372036854775807) (zs : List Int) (hz : zs.length ≤ 1000) (hr : (d.failAt n zs).1 = r) (hd : (d.failAt n zs).2 = d') :
    Calls Try.prog 13 #[v, .int .i64 n, .slice (some ⟨w.heap.size, 0, none⟩) zs.length zs.length] (w.alloc (.cells (zs.map (Value.int .i64)).toArray 3 (0, 0))) fun e w' => e = .returned (.int .i64 r) ∧ Live w0 X w' v d' := by
  subst hr hd
  have hb : Below w.heap.size w (w.alloc (.cells (zs.map (Value.int .i64)).toArray 3 (0, 0))) := (Below.refl _ _).alloc (Nat.le_refl _) _
  exact ((h.keep hb).fail n hn _ zs (keepR_new w zs (fun _ => False) id) (by omega)).mono fun _ _ x => ⟨x.1, x.2.1⟩
/-- Numbers that were just laid, to be read. -/
theorem rdI_new (w : World) (zs : List Int) : RdI (w.alloc (.cells (zs.map (Value.int .i64)).toArray 3 (0, 0))) (.slice (some ⟨w.heap.size, 0, none⟩) zs.length zs.length) zs := by
  refine .inr ⟨w.heap.size, 0, zs.length, rfl, by simp, fun j hj => ?_⟩
  rw [(Blk.alloc_new w _ _).cell]
  simp [hj]
theorem rdS_new (w : World) (ss : List ByteArray) : RdS (w.alloc (.cells (ss.map Value.string).toArray 9 (0, 0))) (.slice (some ⟨w.heap.size, 0, none⟩) ss.length ss.length) ss := by
  refine .inr ⟨w.heap.size, 0, ss.length, rfl, by simp, fun j hj => ?_⟩
  rw [(Blk.alloc_new w _ _).cell]
  simp [hj]
end
theorem sameInts_lit {w : World} {ux : Option Addr} {uc n : Nat} (zs : List Int) (hn : zs.length = n) (hz : n ≤ 1000) (hu : RdI w (.slice ux n uc) zs) :
    Calls Try.prog 26 #[.slice ux n uc, .slice (some ⟨w.heap.size, 0, none⟩) n n] (w.alloc (.cells (zs.map (Value.int .i64)).toArray 3 (0, 0))) fun e w' => e = .returned (.bool true) ∧ Below w.heap.size w w' := by
  subst hn
  have hb : Below w.heap.size w (w.alloc (.cells (zs.map (Value.int .i64)).toArray 3 (0, 0))) := (Below.refl _ _).alloc (Nat.le_refl _) _
  refine (sameInts_any _ _ zs zs _ (hu.below hb) (rdI_new w zs) (by omega) (by omega)).mono ?_
  rintro e w' ⟨rfl, hb2⟩
  exact ⟨by simp, hb.trans (hb2.mono hb.size)⟩
theorem sameTexts_lit {w : World} {ux : Option Addr} {uc n : Nat} (ss : List ByteArray) (hn : ss.length = n) (hz : n ≤ 1000) (hu : RdS w (.slice ux n uc) ss) :
    Calls Try.prog 22 #[.slice ux n uc, .slice (some ⟨w.heap.size, 0, none⟩) n n] (w.alloc (.cells (ss.map Value.string).toArray 9 (0, 0))) fun e w' => e = .returned (.bool true) ∧ Below w.heap.size w w' := by
  subst hn
  have hb : Below w.heap.size w (w.alloc (.cells (ss.map Value.string).toArray 9 (0, 0))) := (Below.refl _ _).alloc (Nat.le_refl _) _
  refine (sameTexts_any _ _ ss ss _ (hu.below hb) (rdS_new w ss) (by omega) (by omega)).mono ?_
  rintro e w' ⟨rfl, hb2⟩
  exact ⟨by simp, hb.trans (hb2.mono hb.size)⟩
end Go.Proofs.Ytnngdflamkdgaaa

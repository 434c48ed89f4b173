/- A disk that a call made, from its beginning on: one, or two beside each other. The chapter's example of a disk. A disk's acts with what they come to given. Rows of a disk's names and numbers, one by one; what stays. No function of a law. -/
import Derived.Test.YtcijhhnbhnaiaaaGreatDoorDiskB
import Derived.BigQuiet
namespace Go.Proofs.YtcijhhnbhnaiaaaGreatDoor
set_option maxRecDepth 100000
open Go.RowKit Go.Maps
open Dsk

section
variable {w : World} {F : Nat → Prop} {d : Dk} {v : Value}
theorem names_at (h : DiskAt w F v d) : Calls Tryz.prog 40 #[v] w fun e w' => ∃ u, e = .returned u ∧ OwnS w' w.heap.size u (strs (names d.files)) ∧ Below w.heap.size w w' := by
  obtain ⟨bd, bm, cv, kv, rfl, h, hf⟩ := h; exact names_in h
theorem size_at (h : DiskAt w F v d) : Calls Tryz.prog 55 #[v] w fun e w' => e = .returned (.int .i64 (total d.files)) ∧ Below w.heap.size w w' := by
  obtain ⟨bd, bm, cv, kv, rfl, h, hf⟩ := h; exact size_in h
theorem up_at (h : DiskAt w F v d) : Calls Tryz.prog 32 #[v] w fun e w' => e = .returned (.bool (!d.off)) ∧ w = w' := by
  obtain ⟨bd, bm, cv, kv, rfl, h, hf⟩ := h; exact up_in h
theorem starts_at (h : DiskAt w F v d) : Calls Tryz.prog 33 #[v] w fun e w' => e = .returned (.int .i64 d.starts) ∧ w = w' := by
  obtain ⟨bd, bm, cv, kv, rfl, h, hf⟩ := h; exact starts_in h
theorem DiskAt.ptr (h : DiskAt w F v d) : ∃ bd, v = .pointer (some ⟨bd, 0, none⟩) := by obtain ⟨bd, _, _, _, e, _⟩ := h; exact ⟨bd, e⟩
end

/-- v is the disk d, made since w0, in no block of X; what was there then is as it was. -/
def Live (w0 : World) (X : Nat → Prop) (w : World) (v : Value) (d : Dk) : Prop := ∃ F, DiskAt w F v d ∧ (∀ k, F k → w0.heap.size ≤ k ∧ ¬ X k) ∧ (∀ k, X k → k < w.heap.size) ∧ Below w0.heap.size w0 w
/-- The blocks of X are as they were. -/
def Keeps (X : Nat → Prop) (w w' : World) : Prop := Chg (fun k => ¬ X k) w w'
theorem Keeps.below {X : Nat → Prop} {w w' : World} (h : Below w.heap.size w w') : Keeps X w w' := Chg.of_below h
theorem Keeps.trans {X : Nat → Prop} {a b c : World} (h : Keeps X a b) (k : Keeps X b c) : Keeps X a c := Chg.trans h k
theorem Keeps.mono {X Y : Nat → Prop} {w w' : World} (h : Keeps X w w') (hXY : ∀ k, Y k → X k) : Keeps Y w w' := Chg.mono h fun _ _ e x => e (hXY _ x)
/-- X, and the blocks that came since. -/
def Also (X : Nat → Prop) (w w' : World) (k : Nat) : Prop := X k ∨ (w.heap.size ≤ k ∧ k < w'.heap.size)
section
variable {w0 w w' : World} {X : Nat → Prop} {v : Value} {d : Dk}
theorem Live.below (h : Live w0 X w v d) : Below w0.heap.size w0 w := by obtain ⟨_, _, _, _, h⟩ := h; exact h
theorem Live.size (h : Live w0 X w v d) : w0.heap.size ≤ w.heap.size := h.below.size
theorem Live.lt (h : Live w0 X w v d) : ∀ k, X k → k < w.heap.size := by obtain ⟨_, _, _, h, _⟩ := h; exact h
theorem Live.ok (h : Live w0 X w v d) : Ok d := by obtain ⟨_, h, _⟩ := h; exact h.ok
theorem Live.ptr (h : Live w0 X w v d) : ∃ bd, v = .pointer (some ⟨bd, 0, none⟩) := by obtain ⟨_, h, _⟩ := h; exact h.ptr
theorem Live.keep (h : Live w0 X w v d) (hb : Below w.heap.size w w') : Live w0 X w' v d := by
  obtain ⟨F, h1, h2, h3, h4⟩ := h
  exact ⟨F, h1.below hb, h2, fun k hk => Nat.lt_of_lt_of_le (h3 k hk) hb.size, h4.trans (hb.mono h4.size)⟩
/-- What was made since is to be kept. -/
theorem Live.add (h : Live w0 X w v d) (hb : Below w.heap.size w w') : Live w0 (Also X w w') w' v d := by
  obtain ⟨F, h1, h2, h3, h4⟩ := h
  have hz := hb.size
  refine ⟨F, h1.below hb, fun k hk => ⟨(h2 k hk).1, fun hx => ?_⟩, fun k hk => ?_, h4.trans (hb.mono h4.size)⟩
  · rcases hx with hx | hx
    · exact (h2 k hk).2 hx
    · have := h1.lt k hk; omega
  · rcases hk with hk | hk
    · have := h3 k hk; omega
    · exact hk.2
theorem Live.drop (h : Live w0 X w v d) {Y : Nat → Prop} (hY : ∀ k, Y k → X k) : Live w0 Y w v d := by
  obtain ⟨F, h1, h2, h3, h4⟩ := h
  exact ⟨F, h1, fun k hk => ⟨(h2 k hk).1, fun hy => (h2 k hk).2 (hY k hy)⟩, fun k hk => h3 k (hY k hk), h4⟩
theorem Live.of {P : Program} {f : FuncId} {args : Array Value} {x : Int × Dk} (h : Live w0 X w v d)
    (hc : ∀ F, DiskAt w F v d → (∀ k, F k → w0.heap.size ≤ k ∧ ¬ X k) → Calls P f args w fun e w' => ∃ r, e = .returned (.int .i64 r) ∧ DidG w F v x r w') :
    Calls P f args w fun e w' => e = .returned (.int .i64 x.1) ∧ Live w0 X w' v x.2 ∧ Keeps X w w' := by
  obtain ⟨F, h1, h2, h3, h4⟩ := h
  refine (hc F h1 h2).mono ?_
  rintro e w' ⟨r, rfl, rfl, F', hd, hg⟩
  have hb := hg.below h4.size fun k hk => (h2 k hk).1
  exact ⟨rfl, ⟨F', hd, fun k hk => ⟨hb.2 k hk, fun hx => (hg.sub k hk).elim (fun e => (h2 k e).2 hx) (fun e => absurd (h3 k hx) (by omega))⟩, fun k hk => Nat.lt_of_lt_of_le (h3 k hk) hg.chg.size, h4.trans hb.1⟩, hg.chg.mono fun k _ hk hx => (h2 k hk).2 hx⟩
theorem Live.append (h : Live w0 X w v d) (name s : ByteArray) (hn : name.size ≤ maxLen) (hs : s.size ≤ maxLen) :
    Calls Tryz.prog 29 #[v, .string name, .string s] w fun e w' => e = .returned (.int .i64 (d.append name.data.toList s.data.toList).1) ∧ Live w0 X w' v (d.append name.data.toList s.data.toList).2 ∧ Keeps X w w' :=
  h.of fun _ hd _ => (append_at hd name s hn hs).mono fun _ _ ⟨r, e, x⟩ => ⟨r, e, x.any⟩
theorem Live.sync (h : Live w0 X w v d) (name : ByteArray) (hn : name.size ≤ maxLen) :
    Calls Tryz.prog 43 #[v, .string name] w fun e w' => e = .returned (.int .i64 (d.sync name.data.toList).1) ∧ Live w0 X w' v (d.sync name.data.toList).2 ∧ Keeps X w w' :=
  h.of fun _ hd _ => (sync_at hd name hn).mono fun _ _ ⟨r, e, x⟩ => ⟨r, e, x.any⟩
theorem Live.rename (h : Live w0 X w v d) (name to : ByteArray) (hn : name.size ≤ maxLen) (hs : to.size ≤ maxLen) :
    Calls Tryz.prog 64 #[v, .string name, .string to] w fun e w' => e = .returned (.int .i64 (d.rename name.data.toList to.data.toList).1) ∧ Live w0 X w' v (d.rename name.data.toList to.data.toList).2 ∧ Keeps X w w' :=
  h.of fun _ hd _ => (rename_at hd name to hn hs).mono fun _ _ ⟨r, e, x⟩ => ⟨r, e, x.any⟩
theorem Live.remove (h : Live w0 X w v d) (name : ByteArray) (hn : name.size ≤ maxLen) :
    Calls Tryz.prog 61 #[v, .string name] w fun e w' => e = .returned (.int .i64 (d.remove name.data.toList).1) ∧ Live w0 X w' v (d.remove name.data.toList).2 ∧ Keeps X w w' :=
  h.of fun _ hd _ => (remove_at hd name hn).mono fun _ _ ⟨r, e, x⟩ => ⟨r, e, x.any⟩
theorem Live.start (h : Live w0 X w v d) :
    Calls Tryz.prog 16 #[v] w fun e w' => e = .returned (.int .i64 d.start.1) ∧ Live w0 X w' v d.start.2 ∧ Keeps X w w' :=
  h.of fun _ hd _ => (start_at hd).mono fun _ _ ⟨r, e, x⟩ => ⟨r, e, x.any⟩
theorem Live.crash (h : Live w0 X w v d) (kv0 : Value) (keep : List Int) (hk : KeepR w (fun k => ¬ X k ∧ w0.heap.size ≤ k) kv0 keep) (hkl : keep.length ≤ 9223372036854775807) :
    Calls Tryz.prog 15 #[v, kv0] w fun e w' => e = .returned (.int .i64 (d.crash keep).1) ∧ Live w0 X w' v (d.crash keep).2 ∧ Keeps X w w' :=
  h.of fun F hd hF => (crash_at hd kv0 keep (hk.mono fun k e => ⟨(hF k e).2, (hF k e).1⟩) hkl).mono fun _ _ ⟨r, e, x⟩ => ⟨r, e, x.any⟩
theorem Live.fail (h : Live w0 X w v d) (n : Int) (hn : n ≤ 9223372036854775807) (kv0 : Value) (keep : List Int) {S : Nat → Prop} (hk : KeepR w S kv0 keep) (hkl : keep.length ≤ 1099511627776) :
    Calls Tryz.prog 31 #[v, .int .i64 n, kv0] w fun e w' => e = .returned (.int .i64 (d.failAt n keep).1) ∧ Live w0 X w' v (d.failAt n keep).2 ∧ Keeps X w w' :=
  h.of fun _ hd _ => fail_at hd n hn kv0 keep hk hkl
theorem Live.names (h : Live w0 X w v d) : Calls Tryz.prog 40 #[v] w fun e w' => ∃ u, e = .returned u ∧ OwnS w' w.heap.size u (strs (Dsk.names d.files)) ∧ Below w.heap.size w w' := by obtain ⟨F, h, _⟩ := h; exact names_at h
theorem Live.sizes (h : Live w0 X w v d) : Calls Tryz.prog 55 #[v] w fun e w' => e = .returned (.int .i64 (total d.files)) ∧ Below w.heap.size w w' := by obtain ⟨F, h, _⟩ := h; exact size_at h
theorem Live.up (h : Live w0 X w v d) : Calls Tryz.prog 32 #[v] w fun e w' => e = .returned (.bool (!d.off)) ∧ w = w' := by obtain ⟨F, h, _⟩ := h; exact up_at h
theorem Live.starts (h : Live w0 X w v d) : Calls Tryz.prog 33 #[v] w fun e w' => e = .returned (.int .i64 d.starts) ∧ w = w' := by obtain ⟨F, h, _⟩ := h; exact starts_at h
theorem Live.read (h : Live w0 X w v d) (name : ByteArray) (hn : name.size ≤ maxLen) :
    Calls Tryz.prog 28 #[v, .string name] w fun e w' => e = .returned (.tuple #[.string ⟨(d.read name.data.toList).1.toArray⟩, .int .i64 (d.read name.data.toList).2]) ∧ Below w.heap.size w w' := by obtain ⟨F, h, _⟩ := h; exact read_at h name hn
theorem live_new (c : Nat) (w : World) (h1 : 1 ≤ c) (h2 : c ≤ 1048576) : Calls Tryz.prog 11 #[.int .i64 c] w fun e w' => ∃ v, e = .returned (.tuple #[v, .int .i64 0]) ∧ Live w (fun _ => False) w' v (Dk.new c) := by
  refine (new_yes c w h1 h2).mono ?_
  rintro e w' ⟨v, rfl, hd, hb⟩
  exact ⟨v, rfl, _, hd, fun k hk => ⟨hk.1, id⟩, fun _ hk => hk.elim, hb⟩
end
end Go.Proofs.YtcijhhnbhnaiaaaGreatDoor
namespace Go.Proofs.YtcijhhnbhnaiaaaGreatDoor
set_option maxRecDepth 100000
open Go.RowKit Go.Maps
open Dsk

theorem lit_le {s : ByteArray} (h : s.size ≤ 1000) : s.size ≤ maxLen := by unfold maxLen; omega
section
variable {w0 w : World} {X : Nat → Prop} {v : Value} {d d' : Dk} {r : Int}
theorem Live.append' (h : Live w0 X w v d) (name s : ByteArray) {n t : Str} (hn : name.data.toList = n) (ht : s.data.toList = t) (hr : (d.append n t).1 = r) (hd : (d.append n t).2 = d') (h1 : name.size ≤ 1000) (h2 : s.size ≤ 1000) :
    Calls Tryz.prog 29 #[v, .string name, .string s] w fun e w' => e = .returned (.int .i64 r) ∧ Live w0 X w' v d' := by
  subst hn ht hr hd
  exact (h.append name s (lit_le h1) (lit_le h2)).mono fun _ _ x => ⟨x.1, x.2.1⟩
theorem Live.sync' (h : Live w0 X w v d) (name : ByteArray) {n : Str} (hn : name.data.toList = n) (hr : (d.sync n).1 = r) (hd : (d.sync n).2 = d') (h1 : name.size ≤ 1000) :
    Calls Tryz.prog 43 #[v, .string name] w fun e w' => e = .returned (.int .i64 r) ∧ Live w0 X w' v d' := by
  subst hn hr hd
  exact (h.sync name (lit_le h1)).mono fun _ _ x => ⟨x.1, x.2.1⟩
theorem Live.rename' (h : Live w0 X w v d) (name s : ByteArray) {n t : Str} (hn : name.data.toList = n) (ht : s.data.toList = t) (hr : (d.rename n t).1 = r) (hd : (d.rename n t).2 = d') (h1 : name.size ≤ 1000) (h2 : s.size ≤ 1000) :
    Calls Tryz.prog 64 #[v, .string name, .string s] w fun e w' => e = .returned (.int .i64 r) ∧ Live w0 X w' v d' := by
  subst hn ht hr hd
  exact (h.rename name s (lit_le h1) (lit_le h2)).mono fun _ _ x => ⟨x.1, x.2.1⟩
theorem Live.remove' (h : Live w0 X w v d) (name : ByteArray) {n : Str} (hn : name.data.toList = n) (hr : (d.remove n).1 = r) (hd : (d.remove n).2 = d') (h1 : name.size ≤ 1000) :
    Calls Tryz.prog 61 #[v, .string name] w fun e w' => e = .returned (.int .i64 r) ∧ Live w0 X w' v d' := by
  subst hn hr hd
  exact (h.remove name (lit_le h1)).mono fun _ _ x => ⟨x.1, x.2.1⟩
theorem Live.start' (h : Live w0 X w v d) (hr : d.start.1 = r) (hd : d.start.2 = d') :
    Calls Tryz.prog 16 #[v] w fun e w' => e = .returned (.int .i64 r) ∧ Live w0 X w' v d' := by
  subst hr hd
  exact h.start.mono fun _ _ x => ⟨x.1, x.2.1⟩
theorem Live.read' (h : Live w0 X w v d) (name : ByteArray) {n : Str} {x : ByteArray} (hn : name.data.toList = n) (hx : x.data.toList = (d.read n).1) (hr : (d.read n).2 = r) (h1 : name.size ≤ 1000) :
    Calls Tryz.prog 28 #[v, .string name] w fun e w' => e = .returned (.tuple #[.string x, .int .i64 r]) ∧ Below w.heap.size w w' := by
  subst hn hr
  refine (h.read name (lit_le h1)).mono fun _ _ y => ⟨?_, y.2⟩
  rw [y.1, ← hx]
/-- A row of numbers that was just laid. -/
theorem keepR_new (w : World) (zs : List Int) (S : Nat → Prop) (hS : ¬ S w.heap.size) : KeepR (w.alloc (.cells (zs.map (Value.int .i64)).toArray 3 (0, 0))) S (.slice (some ⟨w.heap.size, 0, none⟩) zs.length zs.length) zs := by
  refine ⟨some ⟨w.heap.size, 0, none⟩, zs.length, rfl, fun e => (by cases e), fun j hj => ⟨w.heap.size, 0, rfl, by simp, hS, ?_⟩⟩
  rw [(Blk.alloc_new w _ _).cell]
  simp [hj]
/-- A crash with a list that was just laid. -/
theorem Live.crashLit (h : Live w0 X w v d) (zs : List Int) (hz : zs.length ≤ 1000) (hr : (d.crash zs).1 = r) (hd : (d.crash zs).2 = d') :
    Calls Tryz.prog 15 #[v, .slice (some ⟨w.heap.size, 0, none⟩) zs.length zs.length] (w.alloc (.cells (zs.map (Value.int .i64)).toArray 3 (0, 0))) fun e w' => e = .returned (.int .i64 r) ∧ Live w0 X w' v d' := by
  subst hr hd
  have hb : Below w.heap.size w (w.alloc (.cells (zs.map (Value.int .i64)).toArray 3 (0, 0))) := (Below.refl _ _).alloc (Nat.le_refl _) _
  refine ((h.add hb).crash _ zs (keepR_new w zs _ fun e => e.1 (.inr ⟨Nat.le_refl _, by simp⟩)) (by omega)).mono fun _ _ x => ⟨x.1, x.2.1.drop fun k hk => .inl hk⟩
theorem Live.failLit (h : Live w0 X w v d) (n : Int) (hn : n ≤ 9223372036854775807) (zs : List Int) (hz : zs.length ≤ 1000) (hr : (d.failAt n zs).1 = r) (hd : (d.failAt n zs).2 = d') :
    Calls Tryz.prog 31 #[v, .int .i64 n, .slice (some ⟨w.heap.size, 0, none⟩) zs.length zs.length] (w.alloc (.cells (zs.map (Value.int .i64)).toArray 3 (0, 0))) fun e w' => e = .returned (.int .i64 r) ∧ Live w0 X w' v d' := by
  subst hr hd
  have hb : Below w.heap.size w (w.alloc (.cells (zs.map (Value.int .i64)).toArray 3 (0, 0))) := (Below.refl _ _).alloc (Nat.le_refl _) _
  exact ((h.keep hb).fail n hn _ zs (keepR_new w zs (fun _ => False) id) (by omega)).mono fun _ _ x => ⟨x.1, x.2.1⟩
/-- Numbers that were just laid, to be read. -/
theorem rdI_new (w : World) (zs : List Int) : RdI (w.alloc (.cells (zs.map (Value.int .i64)).toArray 3 (0, 0))) (.slice (some ⟨w.heap.size, 0, none⟩) zs.length zs.length) zs := by
  refine .inr ⟨w.heap.size, 0, zs.length, rfl, by simp, fun j hj => ?_⟩
  rw [(Blk.alloc_new w _ _).cell]
  simp [hj]
theorem rdS_new (w : World) (ss : List ByteArray) : RdS (w.alloc (.cells (ss.map Value.string).toArray 9 (0, 0))) (.slice (some ⟨w.heap.size, 0, none⟩) ss.length ss.length) ss := by
  refine .inr ⟨w.heap.size, 0, ss.length, rfl, by simp, fun j hj => ?_⟩
  rw [(Blk.alloc_new w _ _).cell]
  simp [hj]
end
end Go.Proofs.YtcijhhnbhnaiaaaGreatDoor
namespace Go.Proofs.YtcijhhnbhnaiaaaGreatDoor
set_option maxRecDepth 100000
open Go.RowKit Go.Maps
open Dsk

section
variable {w0 w : World} {X : Nat → Prop} {v : Value} {d d' : Dk} {r : Int}
theorem Live.appendP (h : Live w0 X w v d) (name s : ByteArray) {n : Str} (hn : name.data.toList = n) (he : d.append n s.data.toList = (r, d')) (h1 : name.size ≤ 1000) (h2 : s.size ≤ maxLen) :
    Calls Tryz.prog 29 #[v, .string name, .string s] w fun e w' => e = .returned (.int .i64 r) ∧ Live w0 X w' v d' := by
  subst hn
  refine (h.append name s (lit_le h1) h2).mono fun _ _ x => ?_
  rw [he] at x
  exact ⟨x.1, x.2.1⟩
theorem Live.syncP (h : Live w0 X w v d) (name : ByteArray) {n : Str} (hn : name.data.toList = n) (he : d.sync n = (r, d')) (h1 : name.size ≤ 1000) :
    Calls Tryz.prog 43 #[v, .string name] w fun e w' => e = .returned (.int .i64 r) ∧ Live w0 X w' v d' := by
  subst hn
  refine (h.sync name (lit_le h1)).mono fun _ _ x => ?_
  rw [he] at x
  exact ⟨x.1, x.2.1⟩
theorem Live.removeP (h : Live w0 X w v d) (name : ByteArray) {n : Str} (hn : name.data.toList = n) (he : d.remove n = (r, d')) (h1 : name.size ≤ 1000) :
    Calls Tryz.prog 61 #[v, .string name] w fun e w' => e = .returned (.int .i64 r) ∧ Live w0 X w' v d' := by
  subst hn
  refine (h.remove name (lit_le h1)).mono fun _ _ x => ?_
  rw [he] at x
  exact ⟨x.1, x.2.1⟩
theorem Live.renameP (h : Live w0 X w v d) (name s : ByteArray) {n t : Str} (hn : name.data.toList = n) (ht : s.data.toList = t) (he : d.rename n t = (r, d')) (h1 : name.size ≤ 1000) (h2 : s.size ≤ 1000) :
    Calls Tryz.prog 64 #[v, .string name, .string s] w fun e w' => e = .returned (.int .i64 r) ∧ Live w0 X w' v d' := by
  subst hn ht
  refine (h.rename name s (lit_le h1) (lit_le h2)).mono fun _ _ x => ?_
  rw [he] at x
  exact ⟨x.1, x.2.1⟩
theorem Live.startP (h : Live w0 X w v d) (he : d.start = (r, d')) :
    Calls Tryz.prog 16 #[v] w fun e w' => e = .returned (.int .i64 r) ∧ Live w0 X w' v d' := by
  refine h.start.mono fun _ _ x => ?_
  rw [he] at x
  exact ⟨x.1, x.2.1⟩
theorem Live.readP (h : Live w0 X w v d) (name x : ByteArray) {n : Str} (hn : name.data.toList = n) (he : d.read n = (x.data.toList, r)) (h1 : name.size ≤ 1000) :
    Calls Tryz.prog 28 #[v, .string name] w fun e w' => e = .returned (.tuple #[.string x, .int .i64 r]) ∧ Below w.heap.size w w' := by
  subst hn
  refine (h.read name (lit_le h1)).mono fun _ _ y => ⟨?_, y.2⟩
  rw [y.1, he]
theorem Live.failP (h : Live w0 X w v d) (n : Int) (hn : n ≤ 9223372036854775807) (kv0 : Value) (keep : List Int) {S : Nat → Prop} (hk : KeepR w S kv0 keep) (hkl : keep.length ≤ 1099511627776) (he : d.failAt n keep = (r, d')) :
    Calls Tryz.prog 31 #[v, .int .i64 n, kv0] w fun e w' => e = .returned (.int .i64 r) ∧ Live w0 X w' v d' := by
  refine (h.fail n hn kv0 keep hk hkl).mono fun _ _ x => ?_
  rw [he] at x
  exact ⟨x.1, x.2.1⟩
end
end Go.Proofs.YtcijhhnbhnaiaaaGreatDoor
namespace Go.Proofs.YtcijhhnbhnaiaaaGreatDoor
set_option maxRecDepth 100000
open Go.RowKit Go.Maps
open Dsk

theorem bytesLess_before : ∀ a b : List UInt8, Op.bytesLess a b = bytesBefore a b
  | [], [] => rfl
  | [], _ :: _ => rfl
  | _ :: _, [] => rfl
  | a :: r, b :: s => by simp only [Op.bytesLess, bytesBefore, bytesLess_before r s]
theorem leq_false {a b : Str} (h : bytesBefore b a = true) : (Op.bytesLess a b || a == b) = false := by
  rw [bytesLess_before]
  have h1 : bytesBefore a b = false := by
    cases e : bytesBefore a b with
    | false => rfl
    | true => have := before_trans h e; rw [before_irrefl] at this; cases this
  rw [h1, Bool.false_or, beq_eq_false_iff_ne]
  exact (before_ne h).symm
theorem names_at_rising {m : Files} (h : Rising m) (k : Nat) (hk : k < m.length) (h0 : 0 < k) : bytesBefore (m[k - 1]'(by omega)).1 m[k].1 = true :=
  List.pairwise_iff_getElem.1 h (k - 1) k (by omega) hk (by omega)
theorem OwnS.chg {S : Nat → Prop} {w w' : World} {B : Nat} {v : Value} {l : List ByteArray} (h : OwnS w B v l) (x : Chg S w w') (hS : ∀ k, v.ownBlock = some k → ¬ S k) : OwnS w' B v l := by
  have hlt := World.ownsRow.lt h
  obtain ⟨h1, h2⟩ := h
  refine ⟨h1, ?_⟩
  rcases h2 with h2 | ⟨g, cap, cur, hv, hg, hh, r⟩
  · exact .inl h2
  · refine .inr ⟨g, cap, cur, hv, hg, ?_, r⟩
    have hb : v.ownBlock = some g := by rw [hv]; rfl
    rw [x.block g (hlt g hb).2 (hS g hb), hh]
/-- A row that was made since w stays while what is kept is kept. -/
theorem OwnS.keeps {w w1 w2 : World} {X : Nat → Prop} {v : Value} {l : List ByteArray} (h : OwnS w1 w.heap.size v l) (x : Keeps (Also X w w1) w1 w2) : OwnS w2 w.heap.size v l :=
  h.chg x fun k hk hx => hx (.inr ((World.ownsRow.lt h) k hk))
theorem OwnI.each {w : World} {B : Nat} {v : Value} {l : List Int} (h : OwnI w B v l) : ∃ x c, v = .slice x l.length c ∧ ∀ (j : Nat) (hj : j < l.length), ∃ b, x = some ⟨b, 0, none⟩ ∧ B ≤ b ∧ b < w.heap.size ∧ w.cell? ⟨b, j, none⟩ = some (.int .i64 l[j]) := by
  have hlt := World.ownsRow.lt h
  have hcs := fun g (hg : v.ownBlock = some g) => World.ownsRow.cells h hg
  obtain ⟨h1, h2⟩ := h
  rcases h2 with ⟨rfl, h2⟩ | ⟨g, cap, cur, hv, hg, hh, r⟩
  · exact ⟨none, 0, by rw [h2], fun j hj => absurd hj (by omega)⟩
  · refine ⟨some ⟨g, 0, none⟩, cap, hv, fun j hj => ⟨g, rfl, hg, (hlt g (by rw [hv]; rfl)).2, ?_⟩⟩
    have := hcs g (by rw [hv]; rfl) j (.int .i64 l[j]) (by rw [List.getElem?_map, List.getElem?_eq_getElem hj]; rfl)
    have e : (⟨g, 0, none⟩ : Addr).add j = ⟨g, j, none⟩ := by unfold Addr.add; split <;> simp_all
    rw [← e]; exact this
theorem OwnI.keeps {w w1 w2 : World} {X : Nat → Prop} {v : Value} {l : List Int} (h : OwnI w1 w.heap.size v l) (x : Keeps (Also X w w1) w1 w2) : OwnI w2 w.heap.size v l :=
  h.chg x fun k hk hx => hx (.inr ((World.ownsRow.lt h) k hk))
theorem OwnS.base {w : World} {B B' : Nat} {v : Value} {l : List ByteArray} (h : OwnS w B v l) (hB : B' ≤ B) : OwnS w B' v l := by
  obtain ⟨h1, h2⟩ := h
  refine ⟨h1, ?_⟩
  rcases h2 with h2 | ⟨g, cap, cur, hv, hg, r⟩
  · exact .inl h2
  · exact .inr ⟨g, cap, cur, hv, Nat.le_trans hB hg, r⟩
theorem Live.crashP {w0 w : World} {X : Nat → Prop} {v : Value} {d d' : Dk} {r : Int} (h : Live w0 X w v d) (kv0 : Value) (keep : List Int) (hk : KeepR w (fun k => ¬ X k ∧ w0.heap.size ≤ k) kv0 keep) (hkl : keep.length ≤ 9223372036854775807) (he : d.crash keep = (r, d')) :
    Calls Tryz.prog 15 #[v, kv0] w fun e w' => e = .returned (.int .i64 r) ∧ Live w0 X w' v d' ∧ Keeps X w w' := by
  refine (h.crash kv0 keep hk hkl).mono fun _ _ x => ?_
  rw [he] at x
  exact x
theorem Live.startK {w0 w : World} {X : Nat → Prop} {v : Value} {d d' : Dk} {r : Int} (h : Live w0 X w v d) (he : d.start = (r, d')) :
    Calls Tryz.prog 16 #[v] w fun e w' => e = .returned (.int .i64 r) ∧ Live w0 X w' v d' ∧ Keeps X w w' := by
  refine h.start.mono fun _ _ x => ?_
  rw [he] at x
  exact x
theorem keepR_nil (w : World) (S : Nat → Prop) : KeepR w S (.slice none 0 0) [] := ⟨none, 0, rfl, fun _ => rfl, fun j hj => absurd hj (by simp)⟩
end Go.Proofs.YtcijhhnbhnaiaaaGreatDoor

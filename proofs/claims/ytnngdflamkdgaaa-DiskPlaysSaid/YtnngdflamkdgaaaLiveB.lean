/- A disk that a call made, from its beginning on: one, or two beside each other. -/
import Derived.Test.YtnngdflamkdgaaaCrashAt
import Derived.Test.YtnngdflamkdgaaaSame
namespace Go.Proofs.Ytnngdflamkdgaaa
set_option maxRecDepth 100000
open Go.RowKit Go.Maps
open Dsk

section
variable {w : World} {F : Nat → Prop} {d : Dk} {v : Value}
theorem names_at (h : DiskAt w F v d) : Calls Try.prog 20 #[v] w fun e w' => ∃ u, e = .returned u ∧ OwnS w' w.heap.size u (strs (names d.files)) ∧ Below w.heap.size w w' := by
  obtain ⟨bd, bm, cv, kv, rfl, h, hf⟩ := h; exact names_in h
theorem size_at (h : DiskAt w F v d) : Calls Try.prog 19 #[v] w fun e w' => e = .returned (.int .i64 (total d.files)) ∧ Below w.heap.size w w' := by
  obtain ⟨bd, bm, cv, kv, rfl, h, hf⟩ := h; exact size_in h
theorem unsynced_at (h : DiskAt w F v d) : Calls Try.prog 30 #[v] w fun e w' => ∃ u, e = .returned u ∧ OwnI w' w.heap.size u d.unsynced ∧ Below w.heap.size w w' := by
  obtain ⟨bd, bm, cv, kv, rfl, h, hf⟩ := h; exact unsynced_in h
theorem up_at (h : DiskAt w F v d) : Calls Try.prog 31 #[v] w fun e w' => e = .returned (.bool (!d.off)) ∧ w = w' := by
  obtain ⟨bd, bm, cv, kv, rfl, h, hf⟩ := h; exact up_in h
theorem starts_at (h : DiskAt w F v d) : Calls Try.prog 32 #[v] w fun e w' => e = .returned (.int .i64 d.starts) ∧ w = w' := by
  obtain ⟨bd, bm, cv, kv, rfl, h, hf⟩ := h; exact starts_in h
theorem synced_at (h : DiskAt w F v d) (name : ByteArray) (hn : name.size ≤ maxLen) : Calls Try.prog 27 #[v, .string name] w fun e w' => e = .returned (.int .i64 (d.synced name.data.toList)) ∧ w = w' := by
  obtain ⟨bd, bm, cv, kv, rfl, h, hf⟩ := h; exact synced_in h name hn
theorem DiskAt.ptr (h : DiskAt w F v d) : ∃ bd, v = .pointer (some ⟨bd, 0, none⟩) := by obtain ⟨bd, _, _, _, e, _⟩ := h; exact ⟨bd, e⟩
end

/-- v is the disk d, made since w0, in no block of X; what was there then is as it was. -/
def Live (w0 : World) (X : Nat → Prop) (w : World) (v : Value) (d : Dk) : Prop := ∃ F, DiskAt w F v d ∧ (∀ k, F k → w0.heap.size ≤ k ∧ ¬ X k) ∧ (∀ k, X k → k < w.heap.size) ∧ Below w0.heap.size w0 w
/-- The blocks of X are as they were. -/
def Keeps (X : Nat → Prop) (w w' : World) : Prop := Chg (fun k => ¬ X k) w w'
theorem Keeps.below {X : Nat → Prop} {w w' : World} (h : Below w.heap.size w w') : Keeps X w w' := Chg.of_below h
theorem Keeps.trans {X : Nat → Prop} {a b c : World} (h : Keeps X a b) (k : Keeps X b c) : Keeps X a c := Chg.trans h k
theorem Keeps.mono {X Y : Nat → Prop} {w w' : World} (h : Keeps X w w') (hXY : ∀ k, Y k → X k) : Keeps Y w w' := Chg.mono h fun _ _ e x => e (hXY _ x)
/-- X, and the blocks that came since. -/
def Also (X : Nat → Prop) (w w' : World) (k : Nat) : Prop := X k ∨ (w.heap.size ≤ k ∧ k < w'.heap.size)
section
variable {w0 w w' : World} {X : Nat → Prop} {v : Value} {d : Dk}
theorem Live.below (h : Live w0 X w v d) : Below w0.heap.size w0 w := by obtain ⟨_, _, _, _, h⟩ := h; exact h
theorem Live.size (h : Live w0 X w v d) : w0.heap.size ≤ w.heap.size := h.below.size
theorem Live.lt (h : Live w0 X w v d) : ∀ k, X k → k < w.heap.size := by obtain ⟨_, _, _, h, _⟩ := h; exact h
theorem Live.ok (h : Live w0 X w v d) : Ok d := by obtain ⟨_, h, _⟩ := h; exact h.ok
theorem Live.ptr (h : Live w0 X w v d) : ∃ bd, v = .pointer (some ⟨bd, 0, none⟩) := by obtain ⟨_, h, _⟩ := h; exact h.ptr
theorem Live.keep (h : Live w0 X w v d) (hb : Below w.heap.size w w') : Live w0 X w' v d := by
  obtain ⟨F, h1, h2, h3, h4⟩ := h
  exact ⟨F, h1.below hb, h2, fun k hk => Nat.lt_of_lt_of_le (h3 k hk) hb.size, h4.trans (hb.mono h4.size)⟩
/-- What was made since is to be kept. -/
theorem Live.add (h : Live w0 X w v d) (hb : Below w.heap.size w w') : Live w0 (Also X w w') w' v d := by
  obtain ⟨F, h1, h2, h3, h4⟩ := h
  have hz := hb.size
  refine ⟨F, h1.below hb, fun k hk => ⟨(h2 k hk).1, fun hx => ?_⟩, fun k hk => ?_, h4.trans (hb.mono h4.size)⟩
  · rcases hx with hx | hx
    · exact (h2 k hk).2 hx
    · have := h1.lt k hk; omega
  · rcases hk with hk | hk
    · have := h3 k hk; omega
    · exact hk.2
theorem Live.drop (h : Live w0 X w v d) {Y : Nat → Prop} (hY : ∀ k, Y k → X k) : Live w0 Y w v d := by
  obtain ⟨F, h1, h2, h3, h4⟩ := h
  exact ⟨F, h1, fun k hk => ⟨(h2 k hk).1, fun hy => (h2 k hk).2 (hY k hy)⟩, fun k hk => h3 k (hY k hk), h4⟩
theorem Live.of {P : Program} {f : FuncId} {args : Array Value} {x : Int × Dk} (h : Live w0 X w v d)
    (hc : ∀ F, DiskAt w F v d → (∀ k, F k → w0.heap.size ≤ k ∧ ¬ X k) → Calls P f args w fun e w' => ∃ r, e = .returned (.int .i64 r) ∧ DidG w F v x r w') :
    Calls P f args w fun e w' => e = .returned (.int .i64 x.1) ∧ Live w0 X w' v x.2 ∧ Keeps X w w' := by
  obtain ⟨F, h1, h2, h3, h4⟩ := h
  refine (hc F h1 h2).mono ?_
  rintro e w' ⟨r, rfl, rfl, F', hd, hg⟩
  have hb := hg.below h4.size fun k hk => (h2 k hk).1
  exact ⟨rfl, ⟨F', hd, fun k hk => ⟨hb.2 k hk, fun hx => (hg.sub k hk).elim (fun e => (h2 k e).2 hx) (fun e => absurd (h3 k hx) (by omega))⟩, fun k hk => Nat.lt_of_lt_of_le (h3 k hk) hg.chg.size, h4.trans hb.1⟩, hg.chg.mono fun k _ hk hx => (h2 k hk).2 hx⟩
theorem Live.append (h : Live w0 X w v d) (name s : ByteArray) (hn : name.size ≤ maxLen) (hs : s.size ≤ maxLen) :
    Calls Try.prog 11 #[v, .string name, .string s] w fun e w' => e = .returned (.int .i64 (d.append name.data.toList s.data.toList).1) ∧ Live w0 X w' v (d.append name.data.toList s.data.toList).2 ∧ Keeps X w w' :=
  h.of fun _ hd _ => (append_at hd name s hn hs).mono fun _ _ ⟨r, e, x⟩ => ⟨r, e, x.any⟩
theorem Live.sync (h : Live w0 X w v d) (name : ByteArray) (hn : name.size ≤ maxLen) :
    Calls Try.prog 12 #[v, .string name] w fun e w' => e = .returned (.int .i64 (d.sync name.data.toList).1) ∧ Live w0 X w' v (d.sync name.data.toList).2 ∧ Keeps X w w' :=
  h.of fun _ hd _ => (sync_at hd name hn).mono fun _ _ ⟨r, e, x⟩ => ⟨r, e, x.any⟩
theorem Live.rename (h : Live w0 X w v d) (name to : ByteArray) (hn : name.size ≤ maxLen) (hs : to.size ≤ maxLen) :
    Calls Try.prog 14 #[v, .string name, .string to] w fun e w' => e = .returned (.int .i64 (d.rename name.data.toList to.data.toList).1) ∧ Live w0 X w' v (d.rename name.data.toList to.data.toList).2 ∧ Keeps X w w' :=
  h.of fun _ hd _ => (rename_at hd name to hn hs).mono fun _ _ ⟨r, e, x⟩ => ⟨r, e, x.any⟩
theorem Live.remove (h : Live w0 X w v d) (name : ByteArray) (hn : name.size ≤ maxLen) :
    Calls Try.prog 23 #[v, .string name] w fun e w' => e = .returned (.int .i64 (d.remove name.data.toList).1) ∧ Live w0 X w' v (d.remove name.data.toList).2 ∧ Keeps X w w' :=
  h.of fun _ hd _ => (remove_at hd name hn).mono fun _ _ ⟨r, e, x⟩ => ⟨r, e, x.any⟩
theorem Live.start (h : Live w0 X w v d) :
    Calls Try.prog 15 #[v] w fun e w' => e = .returned (.int .i64 d.start.1) ∧ Live w0 X w' v d.start.2 ∧ Keeps X w w' :=
  h.of fun _ hd _ => (start_at hd).mono fun _ _ ⟨r, e, x⟩ => ⟨r, e, x.any⟩
theorem Live.crash (h : Live w0 X w v d) (kv0 : Value) (keep : List Int) (hk : KeepR w (fun k => ¬ X k ∧ w0.heap.size ≤ k) kv0 keep) (hkl : keep.length ≤ 9223372036854775807) :
    Calls Try.prog 35 #[v, kv0] w fun e w' => e = .returned (.int .i64 (d.crash keep).1) ∧ Live w0 X w' v (d.crash keep).2 ∧ Keeps X w w' :=
  h.of fun F hd hF => (crash_at hd kv0 keep (hk.mono fun k e => ⟨(hF k e).2, (hF k e).1⟩) hkl).mono fun _ _ ⟨r, e, x⟩ => ⟨r, e, x.any⟩
theorem Live.fail (h : Live w0 X w v d) (n : Int) (hn : n ≤ 9223372036854775807) (kv0 : Value) (keep : List Int) {S : Nat → Prop} (hk : KeepR w S kv0 keep) (hkl : keep.length ≤ 1099511627776) :
    Calls Try.prog 13 #[v, .int .i64 n, kv0] w fun e w' => e = .returned (.int .i64 (d.failAt n keep).1) ∧ Live w0 X w' v (d.failAt n keep).2 ∧ Keeps X w w' :=
  h.of fun _ hd _ => fail_at hd n hn kv0 keep hk hkl
theorem Live.names (h : Live w0 X w v d) : Calls Try.prog 20 #[v] w fun e w' => ∃ u, e = .returned u ∧ OwnS w' w.heap.size u (strs (Dsk.names d.files)) ∧ Below w.heap.size w w' := by obtain ⟨F, h, _⟩ := h; exact names_at h
theorem Live.sizes (h : Live w0 X w v d) : Calls Try.prog 19 #[v] w fun e w' => e = .returned (.int .i64 (total d.files)) ∧ Below w.heap.size w w' := by obtain ⟨F, h, _⟩ := h; exact size_at h
theorem Live.unsynced (h : Live w0 X w v d) : Calls Try.prog 30 #[v] w fun e w' => ∃ u, e = .returned u ∧ OwnI w' w.heap.size u d.unsynced ∧ Below w.heap.size w w' := by obtain ⟨F, h, _⟩ := h; exact unsynced_at h
theorem Live.up (h : Live w0 X w v d) : Calls Try.prog 31 #[v] w fun e w' => e = .returned (.bool (!d.off)) ∧ w = w' := by obtain ⟨F, h, _⟩ := h; exact up_at h
theorem Live.starts (h : Live w0 X w v d) : Calls Try.prog 32 #[v] w fun e w' => e = .returned (.int .i64 d.starts) ∧ w = w' := by obtain ⟨F, h, _⟩ := h; exact starts_at h
theorem Live.synced (h : Live w0 X w v d) (name : ByteArray) (hn : name.size ≤ maxLen) : Calls Try.prog 27 #[v, .string name] w fun e w' => e = .returned (.int .i64 (d.synced name.data.toList)) ∧ w = w' := by obtain ⟨F, h, _⟩ := h; exact synced_at h name hn
theorem Live.read (h : Live w0 X w v d) (name : ByteArray) (hn : name.size ≤ maxLen) :
    Calls Try.prog 16 #[v, .string name] w fun e w' => e = .returned (.tuple #[.string ⟨(d.read name.data.toList).1.toArray⟩, .int .i64 (d.read name.data.toList).2]) ∧ Below w.heap.size w w' := by obtain ⟨F, h, _⟩ := h; exact read_at h name hn
theorem live_new (c : Nat) (w : World) (h1 : 1 ≤ c) (h2 : c ≤ 1048576) : Calls Try.prog 10 #[.int .i64 c] w fun e w' => ∃ v, e = .returned (.tuple #[v, .int .i64 0]) ∧ Live w (fun _ => False) w' v (Dk.new c) := by
  refine (new_yes c w h1 h2).mono ?_
  rintro e w' ⟨v, rfl, hd, hb⟩
  exact ⟨v, rfl, _, hd, fun k hk => ⟨hk.1, id⟩, fun _ hk => hk.elim, hb⟩
end
end Go.Proofs.Ytnngdflamkdgaaa

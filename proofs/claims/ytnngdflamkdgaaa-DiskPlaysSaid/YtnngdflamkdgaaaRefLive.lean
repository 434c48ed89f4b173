/- The reference's disk, made since a world; the program's disk and it beside each other. -/
import Derived.Test.YtnngdflamkdgaaaRefDisk11
import Derived.Test.YtnngdflamkdgaaaLiveB
namespace Go.Proofs.Ytnngdflamkdgaaa
set_option maxRecDepth 100000
open Go.RowKit Go.Maps
open Dsk

section
variable {w : World} {F : Nat → Prop} {d : Dk}
theorem refCrash_at {v : Value} (h : RefAt w F v d) (kv : Value) (keep : List Int) (hk : KeepR w F kv keep) (hkl : keep.length ≤ 9223372036854775807) :
    Calls Try.prog 53 #[v, kv] w fun e w' => ∃ r, e = .returned (.int .i64 r) ∧ DidR w F v (d.crash keep) r w' := by
  obtain ⟨br, rfl⟩ := h.ptr
  obtain ⟨vl, vk, st, nf, hi, hrest⟩ := h.open_
  unfold Dk.crash
  cases ho : d.off with
  | true =>
    rw [if_pos rfl]
    refine (refCrash_off hi ho kv).mono ?_
    rintro e w' ⟨rfl, rfl⟩
    exact ⟨51, rfl, DidR.same h (Below.refl _ _) _⟩
  | false =>
    rw [if_neg (by simp)]
    refine (refCrash_on hi ho kv keep (hk.mono fun k e => e.elim (fun e => e ▸ hi.fr) (fun e => hi.fl k e)) hkl).mono ?_
    rintro e w' ⟨rfl, hi', hc⟩
    exact ⟨0, rfl, rfl, F, ⟨br, vl, vk, false, nf, rfl, hi', rfl, fun _ e => (by cases e), fun _ e => (by cases e)⟩, hc.mono fun k _ e => e.elim (fun e => e ▸ hi.fr) (fun e => hi.fl k e), fun _ e => .inl e⟩
theorem RefAt.chg {v : Value} (h : RefAt w F v d) {w' : World} {S : Nat → Prop} (x : Chg S w w') (hS : ∀ k, F k → ¬ S k) : RefAt w' F v d := by
  obtain ⟨br, vl, vk, st, nf, e, h, hf⟩ := h
  exact ⟨br, vl, vk, st, nf, e, h.chg x hS, hf⟩
end

/-- v is the reference's disk d, made since w0, in no block of X. -/
def RLive (w0 : World) (X : Nat → Prop) (w : World) (v : Value) (d : Dk) : Prop := ∃ F, RefAt w F v d ∧ (∀ k, F k → w0.heap.size ≤ k ∧ ¬ X k) ∧ (∀ k, X k → k < w.heap.size) ∧ Below w0.heap.size w0 w
section
variable {w0 w w' : World} {X : Nat → Prop} {v : Value} {d : Dk}
theorem RLive.ptr (h : RLive w0 X w v d) : ∃ bd, v = .pointer (some ⟨bd, 0, none⟩) := by obtain ⟨_, h, _⟩ := h; exact h.ptr
theorem RLive.ok (h : RLive w0 X w v d) : Ok d := by obtain ⟨_, h, _⟩ := h; exact h.ok
theorem RLive.keep (h : RLive w0 X w v d) (hb : Below w.heap.size w w') : RLive w0 X w' v d := by
  obtain ⟨F, h1, h2, h3, h4⟩ := h
  exact ⟨F, h1.below hb, h2, fun k hk => Nat.lt_of_lt_of_le (h3 k hk) hb.size, h4.trans (hb.mono h4.size)⟩
theorem RLive.of {P : Program} {f : FuncId} {args : Array Value} {x : Int × Dk} (h : RLive w0 X w v d)
    (hc : ∀ F, RefAt w F v d → (∀ k, F k → w0.heap.size ≤ k ∧ ¬ X k) → Calls P f args w fun e w' => ∃ r, e = .returned (.int .i64 r) ∧ DidR w F v x r w') :
    Calls P f args w fun e w' => e = .returned (.int .i64 x.1) ∧ RLive w0 X w' v x.2 ∧ Keeps X w w' := by
  obtain ⟨F, h1, h2, h3, h4⟩ := h
  refine (hc F h1 h2).mono ?_
  rintro e w' ⟨r, rfl, rfl, F', hd, hg⟩
  have hb := hg.below h4.size fun k hk => (h2 k hk).1
  exact ⟨rfl, ⟨F', hd, fun k hk => ⟨hb.2 k hk, fun hx => (hg.sub k hk).elim (fun e => (h2 k e).2 hx) (fun e => absurd (h3 k hx) (by omega))⟩, fun k hk => Nat.lt_of_lt_of_le (h3 k hk) hg.chg.size, h4.trans hb.1⟩, hg.chg.mono fun k _ hk hx => (h2 k hk).2 hx⟩
theorem RLive.append (h : RLive w0 X w v d) (name s : ByteArray) (hn : name.size ≤ maxLen) (hs : s.size ≤ 4611686018427387904) :
    Calls Try.prog 56 #[v, .string name, .string s] w fun e w' => e = .returned (.int .i64 (d.append name.data.toList s.data.toList).1) ∧ RLive w0 X w' v (d.append name.data.toList s.data.toList).2 ∧ Keeps X w w' :=
  h.of fun _ hd _ => refAppend_at hd name s hn hs
theorem RLive.sync (h : RLive w0 X w v d) (name : ByteArray) :
    Calls Try.prog 50 #[v, .string name] w fun e w' => e = .returned (.int .i64 (d.sync name.data.toList).1) ∧ RLive w0 X w' v (d.sync name.data.toList).2 ∧ Keeps X w w' :=
  h.of fun _ hd _ => refSync_at hd name
theorem RLive.rename (h : RLive w0 X w v d) (name to : ByteArray) (hs : to.size ≤ maxLen) :
    Calls Try.prog 51 #[v, .string name, .string to] w fun e w' => e = .returned (.int .i64 (d.rename name.data.toList to.data.toList).1) ∧ RLive w0 X w' v (d.rename name.data.toList to.data.toList).2 ∧ Keeps X w w' :=
  h.of fun _ hd _ => refRename_at hd name to hs
theorem RLive.remove (h : RLive w0 X w v d) (name : ByteArray) :
    Calls Try.prog 52 #[v, .string name] w fun e w' => e = .returned (.int .i64 (d.remove name.data.toList).1) ∧ RLive w0 X w' v (d.remove name.data.toList).2 ∧ Keeps X w w' :=
  h.of fun _ hd _ => refRemove_at hd name
theorem RLive.start (h : RLive w0 X w v d) :
    Calls Try.prog 54 #[v] w fun e w' => e = .returned (.int .i64 d.start.1) ∧ RLive w0 X w' v d.start.2 ∧ Keeps X w w' :=
  h.of fun _ hd _ => refStart_at hd
theorem RLive.crash (h : RLive w0 X w v d) (kv0 : Value) (keep : List Int) (hk : KeepR w (fun k => ¬ X k ∧ w0.heap.size ≤ k) kv0 keep) (hkl : keep.length ≤ 9223372036854775807) :
    Calls Try.prog 53 #[v, kv0] w fun e w' => e = .returned (.int .i64 (d.crash keep).1) ∧ RLive w0 X w' v (d.crash keep).2 ∧ Keeps X w w' :=
  h.of fun _ hd hF => refCrash_at hd kv0 keep (hk.mono fun k e => ⟨(hF k e).2, (hF k e).1⟩) hkl
theorem RLive.fail (h : RLive w0 X w v d) (n : Int) (hn : n ≤ 9223372036854775807) (kv0 : Value) (keep : List Int) (hk : KeepR w (fun k => ¬ X k ∧ w0.heap.size ≤ k) kv0 keep) (hkl : keep.length ≤ 1099511627776) :
    Calls Try.prog 55 #[v, .int .i64 n, kv0] w fun e w' => e = .returned (.int .i64 (d.failAt n keep).1) ∧ RLive w0 X w' v (d.failAt n keep).2 ∧ Keeps X w w' :=
  h.of fun _ hd hF => refFail_at hd n hn kv0 keep (hk.mono fun k e => ⟨(hF k e).2, (hF k e).1⟩) hkl
theorem RLive.names (h : RLive w0 X w v d) : Calls Try.prog 58 #[v] w fun e w' => ∃ u, e = .returned u ∧ OwnS w' w.heap.size u (strs (Dsk.names d.files)) ∧ Below w.heap.size w w' := by
  obtain ⟨F, h, _⟩ := h; obtain ⟨_, rfl⟩ := h.ptr; obtain ⟨_, _, _, _, hi, _⟩ := h.open_; exact refNames_in hi
theorem RLive.sizes (h : RLive w0 X w v d) : Calls Try.prog 60 #[v] w fun e w' => e = .returned (.int .i64 (total d.files)) ∧ w = w' := by
  obtain ⟨F, h, _⟩ := h; obtain ⟨_, rfl⟩ := h.ptr; obtain ⟨_, _, _, _, hi, _⟩ := h.open_; exact refSize_in hi
theorem RLive.unsynced (h : RLive w0 X w v d) : Calls Try.prog 59 #[v] w fun e w' => ∃ u, e = .returned u ∧ OwnI w' w.heap.size u d.unsynced ∧ Below w.heap.size w w' := by
  obtain ⟨F, h, _⟩ := h; obtain ⟨_, rfl⟩ := h.ptr; obtain ⟨_, _, _, _, hi, _⟩ := h.open_; exact refUnsynced_in hi
theorem RLive.synced (h : RLive w0 X w v d) (name : ByteArray) : Calls Try.prog 28 #[v, .string name] w fun e w' => e = .returned (.int .i64 (d.synced name.data.toList)) ∧ w = w' := by
  obtain ⟨F, h, _⟩ := h; obtain ⟨_, rfl⟩ := h.ptr; obtain ⟨_, _, _, _, hi, _⟩ := h.open_; exact refSynced_in hi name
theorem RLive.read (h : RLive w0 X w v d) (name : ByteArray) : Calls Try.prog 61 #[v, .string name] w fun e w' => e = .returned (.tuple #[.string ⟨(d.read name.data.toList).1.toArray⟩, .int .i64 (d.read name.data.toList).2]) ∧ w = w' := by
  obtain ⟨F, h, _⟩ := h; obtain ⟨_, rfl⟩ := h.ptr; obtain ⟨_, _, _, _, hi, _⟩ := h.open_; exact refRead_in hi name
/-- The struct's own cells. -/
theorem RLive.blk {b : Nat} (h : RLive w0 X w (.pointer (some ⟨b, 0, none⟩)) d) : ∃ st vl nf vk, Blk w b 83 #[.int .i64 d.room, .int .i64 d.starts, .bool d.off, .bool st, vl, .int .i64 nf, vk] := by
  obtain ⟨F, h, _⟩ := h; obtain ⟨vl, vk, st, nf, hi, _⟩ := h.open_; exact ⟨_, _, _, _, hi.blk⟩
theorem rlive_new (c : Nat) (w : World) (h1 : 1 ≤ c) (h2 : c ≤ 1048576) : Calls Try.prog 24 #[.int .i64 c] w fun e w' => ∃ v, e = .returned (.tuple #[v, .int .i64 0]) ∧ RLive w (fun _ => False) w' v (Dk.new c) := by
  refine (refNew_yes c w h1 h2).mono ?_
  rintro e w' ⟨v, rfl, hd, hb⟩
  exact ⟨v, rfl, _, hd, fun k hk => ⟨Nat.le_of_eq hk.symm, id⟩, fun _ hk => hk.elim, hb⟩
end

/-- a is the program's disk da, b the reference's disk db, both made since w0, in no block of X and in none of the other's. -/
def Mate (w0 : World) (X : Nat → Prop) (w : World) (a b : Value) (da db : Dk) : Prop :=
  ∃ Fa Fb, DiskAt w Fa a da ∧ RefAt w Fb b db ∧ (∀ k, Fa k → w0.heap.size ≤ k ∧ ¬ X k ∧ ¬ Fb k) ∧ (∀ k, Fb k → w0.heap.size ≤ k ∧ ¬ X k) ∧ (∀ k, X k → k < w.heap.size) ∧ Below w0.heap.size w0 w
section
variable {w0 w w' : World} {X : Nat → Prop} {a b : Value} {da db x : Dk}
theorem Mate.below (h : Mate w0 X w a b da db) : Below w0.heap.size w0 w := by obtain ⟨_, _, _, _, _, _, _, h⟩ := h; exact h
theorem Mate.size (h : Mate w0 X w a b da db) : w0.heap.size ≤ w.heap.size := h.below.size
theorem Mate.first (h : Mate w0 X w a b da db) : Live w0 X w a da := by
  obtain ⟨Fa, Fb, h1, h2, h3, h4, h5, h6⟩ := h
  exact ⟨Fa, h1, fun k hk => ⟨(h3 k hk).1, (h3 k hk).2.1⟩, h5, h6⟩
theorem Mate.second (h : Mate w0 X w a b da db) : RLive w0 X w b db := by
  obtain ⟨Fa, Fb, h1, h2, h3, h4, h5, h6⟩ := h
  exact ⟨Fb, h2, h4, h5, h6⟩
theorem Mate.add (h : Mate w0 X w a b da db) (hb : Below w.heap.size w w') : Mate w0 (Also X w w') w' a b da db := by
  obtain ⟨Fa, Fb, h1, h2, h3, h4, h5, h6⟩ := h
  have hz := hb.size
  have lt1 := fun k hk => h1.lt k hk
  have lt2 := fun k hk => h2.lt k hk
  refine ⟨Fa, Fb, h1.below hb, h2.below hb, fun k hk => ⟨(h3 k hk).1, fun hx => ?_, (h3 k hk).2.2⟩, fun k hk => ⟨(h4 k hk).1, fun hx => ?_⟩, fun k hk => ?_, h6.trans (hb.mono h6.size)⟩
  · rcases hx with hx | hx
    · exact (h3 k hk).2.1 hx
    · have := lt1 k hk; omega
  · rcases hx with hx | hx
    · exact (h4 k hk).2 hx
    · have := lt2 k hk; omega
  · rcases hk with hk | hk
    · have := h5 k hk; omega
    · exact hk.2
theorem Mate.drop (h : Mate w0 X w a b da db) {Y : Nat → Prop} (hY : ∀ k, Y k → X k) : Mate w0 Y w a b da db := by
  obtain ⟨Fa, Fb, h1, h2, h3, h4, h5, h6⟩ := h
  exact ⟨Fa, Fb, h1, h2, fun k hk => ⟨(h3 k hk).1, fun e => (h3 k hk).2.1 (hY k e), (h3 k hk).2.2⟩, fun k hk => ⟨(h4 k hk).1, fun e => (h4 k hk).2 (hY k e)⟩, fun k hk => h5 k (hY k hk), h6⟩
theorem Mate.keep (h : Mate w0 X w a b da db) (hb : Below w.heap.size w w') : Mate w0 X w' a b da db := (h.add hb).drop fun _ hk => .inl hk
/-- What changes in blocks of X that came since. -/
theorem Mate.poke (h : Mate w0 X w a b da db) {S : Nat → Prop} (hc : Chg S w w') (hS : ∀ k, S k → X k ∧ w0.heap.size ≤ k) : Mate w0 X w' a b da db := by
  obtain ⟨Fa, Fb, h1, h2, h3, h4, h5, h6⟩ := h
  exact ⟨Fa, Fb, h1.chg hc (fun k hk e => (h3 k hk).2.1 (hS k e).1), h2.chg hc (fun k hk e => (h4 k hk).2 (hS k e).1), h3, h4, fun k hk => Nat.lt_of_lt_of_le (h5 k hk) hc.size, h6.trans (hc.below h6.size fun k hk e => by have := (hS k e).2; omega)⟩
theorem Mate.pair {w1 : World} (h1 : Live w0 (fun _ => False) w1 a da) (h2 : RLive w1 (fun _ => False) w b db) : Mate w0 (fun _ => False) w a b da db := by
  obtain ⟨Fa, a1, a2, _, a4⟩ := h1
  obtain ⟨Fb, b1, b2, _, b4⟩ := h2
  have hz := a4.size
  have lt1 := fun k hk => a1.lt k hk
  exact ⟨Fa, Fb, a1.below b4, b1, fun k hk => ⟨(a2 k hk).1, id, fun e => by have := (b2 k e).1; have := lt1 k hk; omega⟩, fun k hk => ⟨Nat.le_trans hz (b2 k hk).1, id⟩, fun _ e => e.elim, a4.trans (b4.mono hz)⟩
theorem Mate.on {P : Program} {f : FuncId} {args : Array Value} {Q : Ending → Prop} (h : Mate w0 X w a b da db)
    (hc : ∀ X', (∀ k, X k → X' k) → Live w0 X' w a da → Calls P f args w fun e w' => Q e ∧ Live w0 X' w' a x ∧ Keeps X' w w') :
    Calls P f args w fun e w' => Q e ∧ Mate w0 X w' a b x db ∧ Keeps X w w' := by
  obtain ⟨Fa, Fb, h1, h2, h3, h4, h5, h6⟩ := h
  have lt2 := fun k hk => h2.lt k hk
  refine (hc (fun k => X k ∨ Fb k) (fun _ hk => .inl hk) ⟨Fa, h1, fun k hk => ⟨(h3 k hk).1, fun e => e.elim (h3 k hk).2.1 (h3 k hk).2.2⟩, fun k hk => hk.elim (h5 k) (lt2 k), h6⟩).mono ?_
  rintro e w' ⟨hq, ⟨F', l1, l2, l3, l4⟩, hk⟩
  exact ⟨hq, ⟨F', Fb, l1, h2.chg hk (fun k hk e => e (.inr hk)), fun k hk => ⟨(l2 k hk).1, fun e => (l2 k hk).2 (.inl e), fun e => (l2 k hk).2 (.inr e)⟩, h4, fun k hk => l3 k (.inl hk), l4⟩, hk.mono fun _ e => .inl e⟩
theorem Mate.onR {P : Program} {f : FuncId} {args : Array Value} {Q : Ending → Prop} (h : Mate w0 X w a b da db)
    (hc : ∀ X', (∀ k, X k → X' k) → RLive w0 X' w b db → Calls P f args w fun e w' => Q e ∧ RLive w0 X' w' b x ∧ Keeps X' w w') :
    Calls P f args w fun e w' => Q e ∧ Mate w0 X w' a b da x ∧ Keeps X w w' := by
  obtain ⟨Fa, Fb, h1, h2, h3, h4, h5, h6⟩ := h
  have lt1 := fun k hk => h1.lt k hk
  refine (hc (fun k => X k ∨ Fa k) (fun _ hk => .inl hk) ⟨Fb, h2, fun k hk => ⟨(h4 k hk).1, fun e => e.elim (h4 k hk).2 (fun e => (h3 k e).2.2 hk)⟩, fun k hk => hk.elim (h5 k) (lt1 k), h6⟩).mono ?_
  rintro e w' ⟨hq, ⟨F', l1, l2, l3, l4⟩, hk⟩
  exact ⟨hq, ⟨Fa, F', h1.chg hk (fun k hk e => e (.inr hk)), l1, fun k hk => ⟨(h3 k hk).1, (h3 k hk).2.1, fun e => (l2 k e).2 (.inr hk)⟩, fun k hk => ⟨(l2 k hk).1, fun e => (l2 k hk).2 (.inl e)⟩, fun k hk => l3 k (.inl hk), l4⟩, hk.mono fun _ e => .inl e⟩
end
end Go.Proofs.Ytnngdflamkdgaaa

/- A disk's acts with what they come to given. -/
import Derived.Test.YtnngdflamkdgaaaDiskLit
namespace Go.Proofs.Ytnngdflamkdgaaa
set_option maxRecDepth 100000
open Go.RowKit Go.Maps
open Dsk

section
variable {w0 w : World} {X : Nat → Prop} {v : Value} {d d' : Dk} {r : Int}
theorem Live.appendP (h : Live w0 X w v d) (name s : ByteArray) {n : Str} (hn : name.data.toList = n) (he : d.append n s.data.toList = (r, d')) (h1 : name.size ≤ 1000) (h2 : s.size ≤ maxLen) :
    Calls Try.prog 11 #[v, .string name, .string s] w fun e w' => e = .returned (.int .i64 r) ∧ Live w0 X w' v d' := by
  subst hn
  refine (h.append name s (lit_le h1) h2).mono fun _ _ x => ?_
  rw [he] at x
  exact ⟨x.1, x.2.1⟩
theorem Live.syncP (h : Live w0 X w v d) (name : ByteArray) {n : Str} (hn : name.data.toList = n) (he : d.sync n = (r, d')) (h1 : name.size ≤ 1000) :
    Calls Try.prog 12 #[v, .string name] w fun e w' => e = .returned (.int .i64 r) ∧ Live w0 X w' v d' := by
  subst hn
  refine (h.sync name (lit_le h1)).mono fun _ _ x => ?_
  rw [he] at x
  exact ⟨x.1, x.2.1⟩
theorem Live.removeP (h : Live w0 X w v d) (name : ByteArray) {n : Str} (hn : name.data.toList = n) (he : d.remove n = (r, d')) (h1 : name.size ≤ 1000) :
    Calls Try.prog 23 #[v, .string name] w fun e w' => e = .returned (.int .i64 r) ∧ Live w0 X w' v d' := by
  subst hn
  refine (h.remove name (lit_le h1)).mono fun _ _ x => ?_
  rw [he] at x
  exact ⟨x.1, x.2.1⟩
theorem Live.renameP (h : Live w0 X w v d) (name s : ByteArray) {n t : Str} (hn : name.data.toList = n) (ht : s.data.toList = t) (he : d.rename n t = (r, d')) (h1 : name.size ≤ 1000) (h2 : s.size ≤ 1000) :
    Calls Try.prog 14 #[v, .string name, .string s] w fun e w' => e = .returned (.int .i64 r) ∧ Live w0 X w' v d' := by
  subst hn ht
  refine (h.rename name s (lit_le h1) (lit_le h2)).mono fun _ _ x => ?_
  rw [he] at x
  exact ⟨x.1, x.2.1⟩
theorem Live.startP (h : Live w0 X w v d) (he : d.start = (r, d')) :
    Calls Try.prog 15 #[v] w fun e w' => e = .returned (.int .i64 r) ∧ Live w0 X w' v d' := by
  refine h.start.mono fun _ _ x => ?_
  rw [he] at x
  exact ⟨x.1, x.2.1⟩
theorem Live.readP (h : Live w0 X w v d) (name x : ByteArray) {n : Str} (hn : name.data.toList = n) (he : d.read n = (x.data.toList, r)) (h1 : name.size ≤ 1000) :
    Calls Try.prog 16 #[v, .string name] w fun e w' => e = .returned (.tuple #[.string x, .int .i64 r]) ∧ Below w.heap.size w w' := by
  subst hn
  refine (h.read name (lit_le h1)).mono fun _ _ y => ⟨?_, y.2⟩
  rw [y.1, he]
theorem Live.failP (h : Live w0 X w v d) (n : Int) (hn : n ≤ 9223372036854775807) (kv0 : Value) (keep : List Int) {S : Nat → Prop} (hk : KeepR w S kv0 keep) (hkl : keep.length ≤ 1099511627776) (he : d.failAt n keep = (r, d')) :
    Calls Try.prog 13 #[v, .int .i64 n, kv0] w fun e w' => e = .returned (.int .i64 r) ∧ Live w0 X w' v d' := by
  refine (h.fail n hn kv0 keep hk hkl).mono fun _ _ x => ?_
  rw [he] at x
  exact ⟨x.1, x.2.1⟩
end
end Go.Proofs.Ytnngdflamkdgaaa

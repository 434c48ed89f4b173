/- What one round of 'DiskPlays' asks of the two disks. -/
import Derived.Test.YtnngdflamkdgaaaPlaysStep
namespace Go.Proofs.Ytnngdflamkdgaaa
set_option maxRecDepth 100000
open Go.RowKit Go.Maps
open Dsk

section
variable {w0 w w1 : World} {X : Nat → Prop} {a b : Value} {da db : Dk} {B : Nat}
/-- 'done', at an act whose numbers lie elsewhere. -/
theorem Mate.doneV (h : Mate w0 X w a b da db) (x : ActS) (ho : ActOk w1 B x) (kk : Int) (hkk : kk = x.kind) (kv : Value) (hk : KeepR w (fun k => ¬ X k ∧ w0.heap.size ≤ k) kv x.keep) (hkl : x.keep.length ≤ 1099511627776) :
    Calls Try.prog 21 #[a, .agg #[.int .u8 kk, .string x.name, .string x.other, .string x.data, .int .i64 x.n, kv]] w fun e w' => e = .returned (.int .i64 (stepA da x).1) ∧ Mate w0 X w' a b (stepA da x).2 db ∧ Keeps X w w' := by
  subst hkk
  exact h.done { x with kv := kv } ⟨ho.kind, ho.name, ho.other, ho.data, ho.n, hk⟩ hkl
theorem Mate.saidV (h : Mate w0 X w a b da db) (x : ActS) (ho : ActOk w1 B x) (kk : Int) (hkk : kk = x.kind) (kv : Value) (hk : KeepR w (fun k => ¬ X k ∧ w0.heap.size ≤ k) kv x.keep) (hkl : x.keep.length ≤ 1099511627776) (hbig : x.data.size ≤ 3000) :
    Calls Try.prog 25 #[b, .agg #[.int .u8 kk, .string x.name, .string x.other, .string x.data, .int .i64 x.n, kv]] w fun e w' => e = .returned (.int .i64 (stepA db x).1) ∧ Mate w0 X w' a b da (stepA db x).2 ∧ Keeps X w w' := by
  subst hkk
  exact h.said { x with kv := kv } ⟨ho.kind, ho.name, ho.other, ho.data, ho.n, hk⟩ hkl (by show x.data.size ≤ _; omega)
end
theorem OwnI.keptX {w w' : World} {X : Nat → Prop} {B g n c : Nat} {l : List Int} (h : OwnI w B (.slice (some ⟨g, 0, none⟩) n c) l) (hk : Keeps X w w') (hX : X g) : OwnI w' B (.slice (some ⟨g, 0, none⟩) n c) l :=
  h.chg hk (fun k e x => by
    obtain rfl : g = k := by simpa [Value.ownBlock] using e
    exact x hX)
end Go.Proofs.Ytnngdflamkdgaaa

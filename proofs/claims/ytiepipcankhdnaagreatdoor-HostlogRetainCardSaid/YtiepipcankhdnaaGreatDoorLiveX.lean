/- A disk's acts beside a world's own blocks; a block of four cells. -/
import Derived.Test.YtiepipcankhdnaaGreatDoorJ4
namespace Go.Proofs.YtiepipcankhdnaaGreatDoor
set_option linter.unusedSimpArgs false
set_option linter.unusedVariables false
set_option maxRecDepth 100000
open Go.RowKit Go.Maps
open Dsk

theorem blk4 {w : World} {m : Nat} {t : TypeId} {a b c e : Value} (h : Blk w m t #[a, b, c, e]) :
    (w.cell? ⟨m, 0, none⟩ = some a ∧ w.cell? ⟨m, 1, none⟩ = some b ∧ w.cell? ⟨m, 2, none⟩ = some c ∧ w.cell? ⟨m, 3, none⟩ = some e) := ⟨h.cell 0, h.cell 1, h.cell 2, h.cell 3⟩
section
variable {w0 w w' : World} {X S : Nat → Prop} {v : Value} {d d' : Dk} {r : Int}
theorem Live.chg (h : Live w0 X w v d) (x : Chg S w w') (hX : ∀ k, S k → X k ∧ w0.heap.size ≤ k) : Live w0 X w' v d := by
  obtain ⟨F, h1, h2, h3, h4⟩ := h
  exact ⟨F, h1.chg x (fun k hk hs => (h2 k hk).2 (hX k hs).1), h2, fun k hk => Nat.lt_of_lt_of_le (h3 k hk) x.size, h4.trans (x.below h4.size (fun k hk hs => by have := (hX k hs).2; omega))⟩
theorem Live.removeK (h : Live w0 X w v d) (name : ByteArray) {n : Str} (hn : name.data.toList = n) (he : d.remove n = (r, d')) (h1 : name.size ≤ 1000) :
    Calls Tryz.prog 67 #[v, .string name] w fun e w' => e = .returned (.int .i64 r) ∧ Live w0 X w' v d' ∧ Keeps X w w' := by
  subst hn
  refine (h.remove name (lit_le h1)).mono fun _ _ x => ?_
  rw [he] at x
  exact x
theorem Live.appendK (h : Live w0 X w v d) (name s : ByteArray) {n t : Str} (hn : name.data.toList = n) (ht : s.data.toList = t) (he : d.append n t = (r, d')) (h1 : name.size ≤ 1000) (h2 : s.size ≤ maxLen) :
    Calls Tryz.prog 48 #[v, .string name, .string s] w fun e w' => e = .returned (.int .i64 r) ∧ Live w0 X w' v d' ∧ Keeps X w w' := by
  subst hn ht
  refine (h.append name s (lit_le h1) h2).mono fun _ _ x => ?_
  rw [he] at x
  exact x
theorem Live.syncK (h : Live w0 X w v d) (name : ByteArray) {n : Str} (hn : name.data.toList = n) (he : d.sync n = (r, d')) (h1 : name.size ≤ 1000) :
    Calls Tryz.prog 53 #[v, .string name] w fun e w' => e = .returned (.int .i64 r) ∧ Live w0 X w' v d' ∧ Keeps X w w' := by
  subst hn
  refine (h.sync name (lit_le h1)).mono fun _ _ x => ?_
  rw [he] at x
  exact x
theorem Live.renameK (h : Live w0 X w v d) (name s : ByteArray) {n t : Str} (hn : name.data.toList = n) (ht : s.data.toList = t) (he : d.rename n t = (r, d')) (h1 : name.size ≤ 1000) (h2 : s.size ≤ 1000) :
    Calls Tryz.prog 119 #[v, .string name, .string s] w fun e w' => e = .returned (.int .i64 r) ∧ Live w0 X w' v d' ∧ Keeps X w w' := by
  subst hn ht
  refine (h.rename name s (lit_le h1) (lit_le h2)).mono fun _ _ x => ?_
  rw [he] at x
  exact x
theorem chg_of_grown {own : Option Nat} (hg : w.grownBy w' own) : Chg (fun k => own = some k) w w' := ⟨hg.os, hg.tape, hg.output, hg.size, fun k hk hne => hg.block k hk (fun e => hne e.symm)⟩
theorem Live.addChg (h : Live w0 X w v d) (x : Chg S w w') (hX : ∀ k, S k → X k ∧ w0.heap.size ≤ k) : Live w0 (Also X w w') w' v d := by
  obtain ⟨F, h1, h2, h3, h4⟩ := h
  refine ⟨F, h1.chg x (fun k hk hs => (h2 k hk).2 (hX k hs).1), fun k hk => ⟨(h2 k hk).1, fun hx => ?_⟩, fun k hk => ?_, h4.trans (x.below h4.size (fun k hk hs => by have := (hX k hs).2; omega))⟩
  · rcases hx with hx | hx
    · exact (h2 k hk).2 hx
    · have := h1.lt k hk; omega
  · rcases hk with hk | hk
    · exact Nat.lt_of_lt_of_le (h3 k hk) x.size
    · exact hk.2
end
end Go.Proofs.YtiepipcankhdnaaGreatDoor

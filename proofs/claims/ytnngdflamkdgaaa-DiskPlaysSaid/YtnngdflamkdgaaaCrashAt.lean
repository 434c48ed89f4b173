/- A crash, by the program. -/
import Derived.Test.YtnngdflamkdgaaaDisk12
namespace Go.Proofs.Ytnngdflamkdgaaa
set_option maxRecDepth 100000
open Go.RowKit Go.Maps
open Dsk

section
variable {w : World} {F : Nat → Prop} {d : Dk}
theorem crash_at {v : Value} (h : DiskAt w F v d) (kv0 : Value) (keep : List Int) (hk : KeepR w F kv0 keep) (hkl : keep.length ≤ 9223372036854775807) :
    Calls Try.prog 35 #[v, kv0] w fun e w' => ∃ r, e = .returned (.int .i64 r) ∧ Did w F v (d.crash keep) r w' := by
  have hat := h
  obtain ⟨bd, bm, cv, kv, rfl, h, hf⟩ := h
  unfold Dk.crash
  cases hoff : d.off
  · rw [if_neg (by simp)]
    refine (crash_on h hoff kv0 keep (hk.mono fun k e => e.elim (fun e => e ▸ h.fd) (fun e => e ▸ h.fm)) hkl).mono ?_
    rintro e w' ⟨rfl, h2, hc⟩
    exact ⟨0, rfl, rfl, ⟨bd, bm, _, _, rfl, h2, fok_crashed _ _⟩, hc.mono fun k _ e => e.elim (fun e => e ▸ h.fd) (fun e => e ▸ h.fm)⟩
  · rw [if_pos rfl]
    refine (crash_off h hoff kv0).mono ?_
    rintro e w' ⟨rfl, rfl⟩
    exact ⟨51, rfl, Did.same hat (Below.refl _ _) _⟩
theorem DidG.later {v : Value} {x : Int × Dk} {r : Int} {w1 w' : World} (h : DidG w1 F v x r w') (hb : Below w.heap.size w w1) : DidG w F v x r w' := by
  obtain ⟨hr, F', hd, hg⟩ := h
  exact ⟨hr, F', hd, (Chg.of_below hb).trans hg.chg, fun k hk => (hg.sub k hk).imp id fun e => Nat.le_trans hb.size e⟩
end
end Go.Proofs.Ytnngdflamkdgaaa

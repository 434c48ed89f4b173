/- The reference's disk: is a change the one with which it crashes. -/
import Derived.Test.YtnngdflamkdgaaaRefDisk6
import Derived.Test.YtnngdflamkdgaaaDisk7
namespace Go.Proofs.Ytnngdflamkdgaaa
set_option maxRecDepth 100000
open Go.RowKit Go.Maps
open Dsk

section
variable {w : World} {F : Nat → Prop} {br : Nat} {vl vk : Value} {st : Bool} {nf : Int} {d : Dk}
theorem RefIn.keepR (h : RefIn w F br vl vk st nf d) : KeepR w (fun k => k = br ∨ vl.ownBlock = some k) vk d.keep := by
  have hrd := h.kept.rd
  have hown : ∀ b, vk.ownBlock = some b → b ≠ br ∧ vl.ownBlock ≠ some b := fun b hb => ⟨fun e => (h.kept.ne_blk h.blk) (e ▸ hb), fun e => h.kept.ne_row h.row hb e⟩
  have hnil : ∀ n c, vk = .slice none n c → c = 0 := fun n c e => by
    obtain ⟨_, h2 | ⟨g, cap, cur, hv, _⟩⟩ := h.kept
    · rw [h2.1] at e; cases e; rfl
    · rw [hv] at e; cases e
  rcases hrd with ⟨c, e, hl⟩ | ⟨b, off, c, e, hb, hc⟩
  · exact ⟨none, c, by rw [e, hl]; rfl, fun _ => hnil _ _ e, fun j hj => absurd hj (by rw [hl]; simp)⟩
  · refine ⟨some ⟨b, off, none⟩, c, e, fun e => (by cases e), fun j hj => ⟨b, off, rfl, hb, ?_, hc j hj⟩⟩
    have := hown b (by rw [e]; rfl)
    exact fun x => x.elim this.1 this.2
theorem refLast_in (h : RefIn w F br vl vk st nf d) (hn : st = true → 0 ≤ nf ∧ nf ≤ 9223372036854775807) :
    Calls Try.prog 71 #[.pointer (some ⟨br, 0, none⟩)] w fun e w' => e = .returned (.bool (st && decide (nf ≤ 0))) ∧ RefIn w' F br vl vk st (if st then nf - 1 else nf) d ∧ Chg (· = br) w w' := by
  have c3 := h.blk.cell 3
  have c5 := h.blk.cell 5
  have f5 := h.blk.free 5
  simp at c3 c5
  have H := Lib.hid h
  cases st with
  | false =>
    clear h hn
    go_enter Try.func71, Try.ntmps71
    go_wp2_with fail
    go_ret
    exact ⟨rfl, H.out, Chg.refl _ _⟩
  | true =>
    obtain ⟨hn1, hn2⟩ := hn rfl
    have hx : Chg (· = br) w (w.setCell ⟨br, 5, none⟩ (.int .i64 (nf - 1))) := put_wr w br 5 _
    have Hx := Lib.hid hx
    have Hb := Lib.hid (show Blk (w.setCell ⟨br, 5, none⟩ (.int .i64 (nf - 1))) br 83 #[.int .i64 d.room, .int .i64 d.starts, .bool d.off, .bool true, vl, .int .i64 (nf - 1), vk] from h.blk.set 5 _)
    have Hr := Lib.hid (h.row.chg hx (fun k e x => h.row.ne_blk h.blk (x ▸ e)))
    have Hk := Lib.hid (h.kept.chg hx (fun k e x => h.kept.ne_blk h.blk (x ▸ e)))
    have hq : IntKind.i64.wrap (nf - 1) = nf - 1 := IntWalk.i64_in _ ⟨by omega, by omega⟩
    have hd : decide (nf - 1 < 0) = decide (nf ≤ 0) := decide_eq_decide.2 (by omega)
    have Hd := Lib.hid hd
    clear h hn hx hd
    go_enter Try.func71, Try.ntmps71
    go_wp2_with fail
    go_ret
    refine ⟨?_, ⟨Hb.out, Hr.out, Hk.out, H.out.fr, H.out.fl, H.out.fk, H.out.ok, fun k e => Nat.lt_of_lt_of_le (H.out.lt k e) Hx.out.size⟩, Hx.out⟩
    rw [← Hd.out]; rfl
set_option maxHeartbeats 1000000 in
theorem refChanges_at {v : Value} (h : RefAt w F v d) (hoff : d.off = false) :
    Calls Try.prog 67 #[v] w fun e w' => Chg F w w' ∧ ((∃ n, d.fail = some n ∧ n ≤ 0 ∧ e = .returned (.int .i64 51) ∧ RefAt w' F v (d.crashed d.keep)) ∨ ((∀ n, d.fail = some n → 0 < n) ∧ e = .returned (.int .i64 0) ∧ RefAt w' F v (Dk.ticked d))) := by
  obtain ⟨br, vl, vk, st, nf, rfl, hi, hst, hnf, hf⟩ := h
  have hrange : st = true → 0 ≤ nf ∧ nf ≤ 9223372036854775807 := fun e => by
    rw [hst] at e
    obtain ⟨n, hn⟩ := Option.isSome_iff_exists.1 e
    rw [hnf n hn]
    exact hf n hn
  have hl := refLast_in hi hrange
  have Hl := Lib.hid hl
  have HI := Lib.hid hi
  have Hst := Lib.hid hst
  have Hnf := Lib.hid hnf
  have Hf := Lib.hid hf
  have Hr := Lib.hid hrange
  clear hi hst hnf hf hl hrange
  cases hb : (st && decide (nf ≤ 0)) with
  | true =>
    rw [hb] at Hl
    obtain ⟨h1, h2⟩ := Bool.and_eq_true_iff.1 hb
    subst h1
    have h2 := of_decide_eq_true h2
    obtain ⟨n, hn⟩ := Option.isSome_iff_exists.1 Hst.out.symm
    have hnn := Hnf.out n hn
    have Hn := Lib.hid hn
    have H2 := Lib.hid h2
    have Hnn := Lib.hid hnn
    clear hb h2 hn hnn
    go_enter Try.func67, Try.ntmps67
    go_wp2_with fail
    refine Hl.out.mono ?_
    rintro e w1 ⟨rfl, hi1, hc1⟩
    have c6 := hi1.blk.cell 6
    simp at c6
    have Hcr := Lib.hid (refCrash_on hi1 hoff vk d.keep hi1.keepR (by have := hi1.ok.keep; omega))
    have HI1 := Lib.hid hi1
    have HC1 := Lib.hid hc1
    clear hi1 hc1
    go_wp2_with fail
    refine Hcr.out.mono ?_
    rintro e w2 ⟨rfl, hi2, hc2⟩
    have HI2 := Lib.hid hi2
    have HC2 := Lib.hid (show Chg F w w2 from (HC1.out.mono fun k _ e => by rw [e]; exact HI.out.fr).trans (hc2.mono fun k _ e => e.elim (fun e => by rw [e]; exact HI.out.fr) (fun e => HI.out.fl k e)))
    clear hi2 hc2 c6
    go_wp2_with fail
    go_ret
    exact ⟨HC2.out, .inl ⟨n, Hn.out, by rw [← Hnn.out]; exact H2.out, rfl, br, vl, vk, false, _, rfl, HI2.out, rfl, fun _ e => (by cases e), fun _ e => (by cases e)⟩⟩
  | false =>
    rw [hb] at Hl
    have Hb := Lib.hid hb
    clear hb
    go_enter Try.func67, Try.ntmps67
    go_wp2_with fail
    refine Hl.out.mono ?_
    rintro e w1 ⟨rfl, hi1, hc1⟩
    have HI1 := Lib.hid hi1
    have HC1 := Lib.hid (show Chg F w w1 from hc1.mono fun k _ e => by rw [e]; exact HI.out.fr)
    clear hi1 hc1
    go_wp2_with fail
    go_ret
    refine ⟨HC1.out, .inr ⟨fun n hn => ?_, rfl, ?_⟩⟩
    · have hst := Hst.out
      rw [hn] at hst
      have hb := Hb.out
      rw [hst] at hb
      have := Hnf.out n hn
      simp at hb
      omega
    · cases hfl : d.fail with
      | none =>
        have hst := Hst.out
        rw [hfl] at hst
        have hst2 : st = false := by simpa using hst
        have hi := HI1.out
        rw [hst2] at hi
        refine ⟨br, vl, vk, false, nf, rfl, ?_, ?_, fun n hn => ?_, ?_⟩
        · unfold Dk.ticked; rw [hfl]; exact hi
        · unfold Dk.ticked; rw [hfl, hfl]; rfl
        · unfold Dk.ticked at hn; rw [hfl] at hn; simp only at hn; rw [hfl] at hn; cases hn
        · unfold Dk.ticked; rw [hfl]; exact Hf.out
      | some n =>
        have hst := Hst.out
        rw [hfl] at hst
        have hst2 : st = true := by simpa using hst
        have hnn := Hnf.out n hfl
        have hpos : 0 < n := by
          have hb := Hb.out
          rw [hst2, hnn] at hb
          simp at hb
          omega
        have hi := HI1.out
        rw [hst2, hnn] at hi
        have hfo := Hf.out n hfl
        refine ⟨br, vl, vk, true, n - 1, rfl, ?_, ?_, fun m hm => ?_, fun m hm => ?_⟩
        · unfold Dk.ticked; rw [hfl]
          exact ⟨hi.blk, hi.row, hi.kept, hi.fr, hi.fl, hi.fk, ⟨hi.ok.room1, hi.ok.room2, hi.ok.rising, hi.ok.named, hi.ok.safe, hi.ok.count, hi.ok.fits, hi.ok.starts, hi.ok.keep⟩, hi.lt⟩
        · unfold Dk.ticked; rw [hfl]; rfl
        · unfold Dk.ticked at hm; rw [hfl] at hm; simp only [Option.some.injEq] at hm; exact hm
        · unfold Dk.ticked at hm; rw [hfl] at hm; simp only [Option.some.injEq] at hm; omega
end
end Go.Proofs.Ytnngdflamkdgaaa

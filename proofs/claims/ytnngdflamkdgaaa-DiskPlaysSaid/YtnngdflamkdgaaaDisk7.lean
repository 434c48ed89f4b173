/- The disk's changes. -/
import Derived.Test.YtnngdflamkdgaaaDisk6
namespace Go.Proofs.Ytnngdflamkdgaaa
set_option maxRecDepth 100000
open Go.RowKit Go.Maps
open Dsk

/-- The counter of a scheduled crash, one less. -/
def Dk.ticked (d : Dk) : Dk := match d.fail with | none => d | some n => { d with fail := some (n - 1) }

section
variable {w : World} {F : Nat → Prop} {bd bm : Nat} {cv kv : Value} {d : Dk}
theorem DiskIn.keepR (h : DiskIn w F bd bm cv kv d) : KeepR w (fun k => k = bd ∨ k = bm) kv d.keep := by
  have hrd := h.row.rd
  have hown : ∀ b, kv.ownBlock = some b → b ≠ bd ∧ b ≠ bm := fun b hb => ⟨(h.fk b hb).2.1, fun e => map_ne_row h.map h.row (e ▸ hb)⟩
  have hnil : ∀ n c, kv = .slice none n c → c = 0 := fun n c e => by
    obtain ⟨_, h2 | ⟨g, cap, cur, hv, _⟩⟩ := h.row
    · rw [h2.1] at e; cases e; rfl
    · rw [hv] at e; cases e
  rcases hrd with ⟨c, e, hl⟩ | ⟨b, off, c, e, hb, hc⟩
  · exact ⟨none, c, by rw [e, hl]; rfl, fun _ => hnil _ _ e, fun j hj => absurd hj (by rw [hl]; simp)⟩
  · refine ⟨some ⟨b, off, none⟩, c, e, fun e => (by cases e), fun j hj => ⟨b, off, rfl, hb, ?_, hc j hj⟩⟩
    have := hown b (by rw [e]; rfl)
    exact fun x => x.elim this.1 this.2

set_option maxHeartbeats 1000000 in
theorem change_any (h : DiskIn w F bd bm cv kv d) (hf : FOk d) (hoff : d.off = false) {f : FuncId} {caps : Array Value} {Post : Int → World → Prop} (hent : Go.Proofs.Enters Try.prog f)
    (hcrash : ∀ n, d.fail = some n → n ≤ 0 → ∀ w', DiskIn w' F bd bm .nilFunc kv (d.crashed d.keep) → Chg F w w' → Post 51 w')
    (hdo : (∀ n, d.fail = some n → 0 < n) → ∀ w1, DiskIn w1 F bd bm cv kv (Dk.ticked d) → Chg F w w1 → Calls Try.prog f caps w1 fun e w2 => e = .returned (.tuple #[]) ∧ Post 0 w2) :
    Calls Try.prog 40 #[.pointer (some ⟨bd, 0, none⟩), .func (.func f) #[] caps] w fun e w' => ∃ r, e = .returned (.int .i64 r) ∧ Post r w' := by
  have Hent := Lib.hid (fun w => hent caps w)
  clear hent
  cases hfl : d.fail with
  | none =>
    have hc := crashes_none h hfl
    have hd := hdo (fun n e => by rw [hfl] at e; cases e) w (by unfold Dk.ticked; rw [hfl]; exact h) (Chg.refl _ _)
    have Hd := Lib.hid hd
    clear h hf hoff hcrash hdo hfl hd
    go_enter Try.func40, Try.ntmps40
    go_wp2_with (go_at_call 62; refine hc.mono ?_; rintro e w' ⟨rfl, rfl⟩)
    rw [Hent.out]
    refine Hd.out.mono ?_
    rintro e w2 ⟨rfl, hp⟩
    have Hp := Lib.hid hp
    clear hp
    go_wp2_with fail
    go_ret
    exact ⟨_, rfl, Hp.out⟩
  | some n =>
    obtain ⟨hn1, hn2⟩ := hf n hfl
    have hc := crashes_some h hfl ⟨hn1, hn2⟩
    by_cases hn : n ≤ 0
    · have hdec : decide (n - 1 < 0) = true := decide_eq_true (by omega)
      rw [hdec] at hc
      have hcr := hcrash n hfl hn
      have hkl := h.ok.keep
      have Hc := Lib.hid hc
      have Hcr := Lib.hid hcr
      clear h hf hcrash hdo hfl hn hdec hc hcr
      go_enter Try.func40, Try.ntmps40
      go_wp2_with fail
      refine Hc.out.mono ?_
      rintro e w1 ⟨rfl, h1, hc1⟩
      have c5 := h1.blk.cell 5
      simp at c5
      have hcra := crash_on h1 hoff kv d.keep h1.keepR (by omega)
      have Hcra := Lib.hid hcra
      have Hc1 := Lib.hid hc1
      have Hf := Lib.hid (show F bd ∧ F bm from ⟨h1.fd, h1.fm⟩)
      clear h1 hc1 hcra
      go_wp2_with fail
      refine Hcra.out.mono ?_
      rintro e w2 ⟨rfl, h2, hc2⟩
      have Hp := Lib.hid (Hcr.out w2 h2 (Hc1.out.trans (hc2.mono fun k _ e => e.elim (fun x => x ▸ Hf.out.1) (fun x => x ▸ Hf.out.2))))
      clear h2 hc2
      go_wp2_with fail
      go_ret
      exact ⟨_, rfl, Hp.out⟩
    · have hdec : decide (n - 1 < 0) = false := decide_eq_false (by omega)
      rw [hdec] at hc
      have hd := hdo (fun m e => by rw [hfl] at e; cases e; omega)
      unfold Dk.ticked at hd
      rw [hfl] at hd
      have Hc := Lib.hid hc
      have Hd := Lib.hid hd
      clear h hf hcrash hdo hfl hn hdec hc hd
      go_enter Try.func40, Try.ntmps40
      go_wp2_with fail
      refine Hc.out.mono ?_
      rintro e w1 ⟨rfl, h1, hc1⟩
      have Hd1 := Lib.hid (Hd.out w1 h1 hc1)
      clear h1 hc1
      go_wp2_with fail
      rw [Hent.out]
      refine Hd1.out.mono ?_
      rintro e w2 ⟨rfl, hp⟩
      have Hp := Lib.hid hp
      clear hp
      go_wp2_with fail
      go_ret
      exact ⟨_, rfl, Hp.out⟩
end
end Go.Proofs.Ytnngdflamkdgaaa

/- A host's log: does it run; what an act came to; the last segment; its numbers: walked. -/
import Derived.Test.YtiepipcankhdnaaGreatDoorHlF
import Derived.Test.YtiepipcankhdnaaGreatDoorLiveX
namespace Go.Proofs.YtiepipcankhdnaaGreatDoor
set_option linter.unusedSimpArgs false
set_option linter.unusedVariables false
set_option maxRecDepth 100000
open Go.RowKit Go.Maps
open Dsk

theorem belowD (w : World) (n : Nat) : Below w.heap.size w (w.drewN n) := (Chg.drewN' (S := fun _ => False) n).below (Nat.le_refl _) (fun _ _ e => e)
theorem Calls.quietB {P : Program} {f : FuncId} {args : Array Value} {w : World} {n : Nat} {v : Value} (h : Calls P f args (w.drewN n) fun e w' => e = .returned v ∧ w.drewN n = w') : Calls P f args (w.drewN n) fun e w'' => e = .returned v ∧ ∃ m, w'' = w.drewN m :=
  h.mono fun e w' ⟨h1, h2⟩ => ⟨h1, n, h2.symm⟩
section
variable {w0 w w' : World} {X H S : Nat → Prop} {v : Value} {d d' : Dk} {j : Nat} {h : Hl}
set_option maxHeartbeats 1000000 in
theorem hruns_any (h0 : HS w0 X H w v d j h) :
    Calls Tryz.prog 43 #[.pointer (some ⟨j, 0, none⟩)] w fun e w' => e = .returned (.int .i64 (if h.runs d then 0 else 51)) ∧ Below w.heap.size w w' := by
  obtain ⟨bd, rfl⟩ := h0.ptr
  obtain ⟨lv, vs, hb, _⟩ := h0.mem
  obtain ⟨c0, c1, c2, _⟩ := blk4 hb
  have hU := fun n => Calls.quietB (h0.live.keep (belowD w n)).up
  have hS := fun n => Calls.quietB (h0.live.keep (belowD w n)).starts
  obtain ⟨r, hr⟩ : ∃ r : Int, r = if h.runs d then 0 else 51 := ⟨_, rfl⟩
  rw [← hr]
  have HR := Lib.hid hr
  obtain ⟨st, lost, l⟩ := h
  obtain ⟨off, hoff⟩ : ∃ off, off = d.off := ⟨_, rfl⟩
  obtain ⟨ds, hds⟩ : ∃ ds, ds = d.starts := ⟨_, rfl⟩
  rw [← hoff] at hU
  rw [← hds] at hS
  have HOFF := Lib.hid hoff
  have HDS := Lib.hid hds
  have HS := Lib.hid hS
  simp only at c1 c2
  clear hr hoff hds hS h0 hb
  cases lost with
  | true =>
    have HV := Lib.hid (show r = 51 by rw [HR.out, if_neg]; rintro ⟨e, _⟩; cases e)
    clear hU HS HOFF HDS
    go_enter Tryz.func43, Tryz.ntmps43
    go_wp2_with fail
    go_quiet (fail)
    go_wp2_with fail
    go_ret
    rw [HV.out]
    exact ⟨rfl, belowD _ _⟩
  | false =>
    cases off with
    | true =>
      have HV := Lib.hid (show r = 51 by rw [HR.out, if_neg]; rintro ⟨_, e, _⟩; rw [← HOFF.out] at e; cases e)
      have HU := Lib.hid hU
      clear hU HS HOFF HDS
      go_enter Tryz.func43, Tryz.ntmps43
      go_wp2_with fail
      go_quiet ((go_at_call 30; exact HU.out _))
      go_wp2_with fail
      go_ret
      rw [HV.out]
      exact ⟨rfl, belowD _ _⟩
    | false =>
      have HU := Lib.hid hU
      clear hU
      by_cases hst : ds = st
      · have HV := Lib.hid (show r = 0 by rw [HR.out, if_pos]; exact ⟨rfl, HOFF.out.symm, by show d.starts = st; rw [← HDS.out]; exact hst⟩)
        subst hst
        clear HOFF HDS
        go_enter Tryz.func43, Tryz.ntmps43
        go_wp2_with fail
        go_quiet (first | (go_at_call 30; exact HU.out _) | (go_at_call 57; exact HS.out _))
        go_wp2_with fail
        go_ret
        rw [HV.out]
        exact ⟨rfl, belowD _ _⟩
      · have HV := Lib.hid (show r = 51 by rw [HR.out, if_neg]; rintro ⟨_, _, e⟩; rw [← HDS.out] at e; exact hst e)
        have t1 : (ds == st) = false := beq_eq_false_iff_ne.2 hst
        clear HOFF HDS hst
        go_enter Tryz.func43, Tryz.ntmps43
        go_wp2_with fail
        go_quiet (first | (go_at_call 30; exact HU.out _) | (go_at_call 57; exact HS.out _))
        go_wp2_with fail
        go_ret
        rw [HV.out]
        exact ⟨rfl, belowD _ _⟩
/-- A log that is none. -/
def NilL (w : World) (v : Value) : Prop := v = .pointer none ∨ ∃ b, v = .pointer (some ⟨b, 0, none⟩) ∧ b < w.heap.size ∧ w.cell? ⟨b, 0, none⟩ = some (.pointer none) ∧ w.cell? ⟨b, 3, none⟩ = some (.slice none 0 0)
theorem NilL.below (h : NilL w v) (x : Below w.heap.size w w') : NilL w' v := by
  rcases h with rfl | ⟨b, rfl, hb, hc, hd⟩
  · exact .inl rfl
  · exact .inr ⟨b, rfl, Nat.lt_of_lt_of_le hb x.size, (x.cell (p := ⟨b, 0, none⟩) hb).trans hc, (x.cell (p := ⟨b, 3, none⟩) hb).trans hd⟩
theorem hruns_nil (h : NilL w v) : Calls Tryz.prog 43 #[v] w fun e w' => e = .returned (.int .i64 1) ∧ w = w' := by
  rcases h with rfl | ⟨b, rfl, hb, hc, _⟩
  all_goals
    go_enter Tryz.func43, Tryz.ntmps43
    go_wp2_with fail
    go_ret
    exact ⟨rfl, rfl⟩
theorem NilL.ptr (h : NilL w v) : ∃ a, v = .pointer a := by rcases h with rfl | ⟨b, rfl, _⟩ <;> exact ⟨_, rfl⟩
/-- What an act came to, told. -/
theorem HS.told (h0 : HS w0 X H w v d j h) (b : Bool) : HS w0 X H (w.setCell ⟨j, 2, none⟩ (.bool b)) v d j { h with lost := b } ∧ Chg (fun k => k = j) w (w.setCell ⟨j, 2, none⟩ (.bool b)) := by
  have hc : Chg (fun k => k = j) w (w.setCell ⟨j, 2, none⟩ (.bool b)) := (Chg.refl (fun k => k = j) w).setCell (p := ⟨j, 2, none⟩) (fun _ => rfl) _
  refine ⟨?_, hc⟩
  obtain ⟨live, ⟨lv, vs, hb, hr, hi⟩, sub, new⟩ := h0
  have hj := hi j (.inl rfl)
  have hbj : ∀ k, lv.ownBlock = some k ∨ k ∈ blks vs → k ≠ j := by
    rintro k hk rfl
    rcases hk with hk | hk
    · rcases hr.row.2 with ⟨rfl, _⟩ | ⟨g, cap, cur, rfl, _, hh, _⟩
      · cases hk
      · injection hk with hk
        have hk : g = k := hk
        subst hk
        unfold Blk at hb
        rw [hb] at hh
        injection hh with hh
        injection hh with _ hh _
        exact absurd hh (by decide)
    · obtain ⟨i, hi2, hk⟩ := mem_blks.1 hk
      have hs := hr.each i hi2 (hr.len ▸ hi2)
      rcases hk with hk | hk
      · rcases hs.spans.2 with ⟨e, _⟩ | ⟨g, cap, cur, e, _, hh, _⟩
        · rw [e] at hk; cases hk
        · rw [e] at hk
          injection hk with hk
          have hk : g = k := hk
          subst hk
          unfold Blk at hb
          rw [hb] at hh
          injection hh with hh
          injection hh with _ hh _
          exact absurd hh (by decide)
      · rcases hs.ends.2 with ⟨e, _⟩ | ⟨g, cap, cur, e, _, hh, _⟩
        · rw [e] at hk; cases hk
        · rw [e] at hk
          injection hk with hk
          have hk : g = k := hk
          subst hk
          unfold Blk at hb
          rw [hb] at hh
          injection hh with hh
          injection hh with _ hh _
          exact absurd hh (by decide)
  exact ⟨live.chg hc (fun k e => by have e : k = j := e; subst e; exact ⟨sub _ hj, (new _ hj).1⟩), ⟨lv, vs, hb.set 2 _, hr.chg hc hbj, hi⟩, sub, fun k hk => ⟨(new k hk).1, Nat.lt_of_lt_of_le (new k hk).2 hc.size⟩⟩
end
end Go.Proofs.YtiepipcankhdnaaGreatDoor

/- What the laws on a host's log lean on: a log newly opened; rows beside a log; a log that is calm. -/
import Derived.Test.YtiepipcankhdnaaGreatDoorHlDx
import Derived.Test.YtiepipcankhdnaaGreatDoorHlTab
import Derived.Test.YtiepipcankhdnaaGreatDoorHlRtP
namespace Go.Proofs.YtiepipcankhdnaaGreatDoor
set_option linter.unusedSimpArgs false
set_option linter.unusedVariables false
set_option maxRecDepth 100000
open Go.RowKit Go.Maps
open Dsk

section
variable {w0 w w' : World} {X H S : Nat → Prop} {v lv : Value} {d d' : Dk} {j B : Nat} {h : Hl} {vs : List SegV} {l : List Sg} {rs : List Sp.Span} {k : Nat}
/-- A row of one's own is turned, or something is made. -/
theorem HS.row (h0 : HS w0 X H w v d j h) (x : Chg S w w') (hS : ∀ b, S b → X b ∧ ¬ H b ∧ w0.heap.size ≤ b) : HS w0 (Also X w w') H w' v d j h := by
  obtain ⟨live, ⟨lv, vs, hb, hr, hi⟩, sub, new⟩ := h0
  exact ⟨live.addChg x fun b hb => ⟨(hS b hb).1, (hS b hb).2.2⟩, ⟨lv, vs, hb.chg x fun e => (hS j e).2.1 (hi j (.inl rfl)), hr.chg x fun b hb e => (hS b e).2.1 (hi b (.inr hb)), hi⟩, fun b hb => .inl (sub b hb), fun b hb => ⟨(new b hb).1, Nat.lt_of_lt_of_le (new b hb).2 x.size⟩⟩
theorem HS.size (h0 : HS w0 X H w v d j h) : w0.heap.size ≤ w.heap.size := h0.live.size
theorem Calm.bnd (c : Calm d h rs k) (hk : k ≤ 100000) : SgsBnd h.l := by
  obtain ⟨s, hs⟩ := c.file
  refine ⟨hs.sgs.may, fun a ha => ?_, fun a ha => ?_, ?_⟩
  · have := c.firsts a ha; omega
  · have h1 := spans_le h.l a ha
    rw [c.recs] at h1
    have := c.long
    omega
  · have := c.many; omega
theorem Calm.num (c : Calm d h rs k) (hk : k ≤ 100000) : (numbered h.l).length ≤ 1000000 := by
  rw [numbered_length, c.recs]
  have := c.long
  omega
theorem Calm.sureLe (c : Calm d h rs k) (hk : k ≤ 100000) : sureL d h.l 0 ≤ 1000000000 := by
  obtain ⟨s, hs⟩ := c.file
  rw [hs.sureL 0 fun _ => rfl]
  refine sureOf_small ?_
  rw [c.next]
  have := c.long
  omega
set_option maxHeartbeats 2000000 in
/-- A log on a new disk. -/
theorem hopened_any (c : Nat) (hc1 : 1 ≤ c) (hc2 : c ≤ 1048576) (w : World) :
    Calls Tryz.prog 10 #[.int .i64 c] w fun e w' => ∃ bd j X H, e = .returned (.tuple #[.pointer (some ⟨bd, 0, none⟩), .pointer (some ⟨j, 0, none⟩)]) ∧ HS w X H w' (.pointer (some ⟨bd, 0, none⟩)) (Dk.new c) j ⟨0, false, []⟩ := by
  go_enter Tryz.func10, Tryz.ntmps10
  go_wp2_with fail
  refine (live_new c w hc1 hc2).mono ?_
  rintro e w1 ⟨v, rfl, hl1⟩
  obtain ⟨bd, rfl⟩ := hl1.ptr
  have HL1 := Lib.hid hl1
  clear hl1
  go_wp2_with fail
  refine (hopen_new HL1.out rfl rfl).mono ?_
  rintro e w2 ⟨j, rfl, N, hN, hs, hk⟩
  have HHS2 := Lib.hid hs
  clear hN hs hk
  go_wp2_with fail
  refine bodyPost_ret (v := .tuple #[.pointer (some ⟨bd, 0, none⟩), .pointer (some ⟨j, 0, none⟩)]) (by simp [results, Tryz.results10, go_sem]) rfl ?_
  exact ⟨bd, j, _, _, rfl, HHS2.out⟩
/-- Those that may be. -/
def mays (l : List Sp.Span) : List Sp.Span := l.filter fun x => decide (Sp.May x)
theorem mays_len (l : List Sp.Span) : (mays l).length ≤ l.length := List.length_filter_le _ _
theorem mays_yes (l : List Sp.Span) (k : Nat) (hk : k < l.length) (h : Sp.May l[k]) : mays (l.take (k + 1)) = mays (l.take k) ++ [l[k]] := by
  rw [List.take_succ_eq_append_getElem hk]
  unfold mays
  rw [List.filter_append]
  simp [h]
theorem mays_no (l : List Sp.Span) (k : Nat) (hk : k < l.length) (h : ¬ Sp.May l[k]) : mays (l.take (k + 1)) = mays (l.take k) := by
  rw [List.take_succ_eq_append_getElem hk]
  unfold mays
  rw [List.filter_append]
  simp [h]
theorem Calm.more {k' : Nat} (c : Calm d h rs k) (hk : k ≤ k') : Calm d h rs k' := ⟨c.off, c.fail, c.room, c.st, c.lost, c.recs, c.first, Nat.le_trans c.many hk, Nat.le_trans c.long hk, c.file⟩
theorem Calmed.more {k' : Nat} (c : Calmed d h rs k) (hk : k ≤ k') : Calmed d h rs k' := ⟨c.toCalm.more hk, c.all⟩
end
end Go.Proofs.YtiepipcankhdnaaGreatDoor

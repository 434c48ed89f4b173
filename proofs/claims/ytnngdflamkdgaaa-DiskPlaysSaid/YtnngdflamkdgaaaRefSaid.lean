/- 'done' and 'said': an act, by the program and by the reference, whatever its numbers lie in. -/
import Derived.Test.YtnngdflamkdgaaaRefLive
import Derived.Test.YtnngdflamkdgaaaActs2
namespace Go.Proofs.Ytnngdflamkdgaaa
set_option maxRecDepth 100000
open Go.RowKit Go.Maps
open Dsk

/-- An act whose numbers can be read, in no block of S. -/
structure ActF (w : World) (S : Nat → Prop) (a : ActS) : Prop where
  kind : a.kind < 256
  name : a.name.size ≤ maxLen
  other : a.other.size ≤ maxLen
  data : a.data.size ≤ maxLen
  n : -9223372036854775808 ≤ a.n ∧ a.n ≤ 9223372036854775807
  kv : KeepR w S a.kv a.keep
theorem ActF.chg {w w' : World} {S T : Nat → Prop} {a : ActS} (h : ActF w S a) (x : Chg T w w') (hT : ∀ k, T k → S k) : ActF w' S a := ⟨h.kind, h.name, h.other, h.data, h.n, h.kv.chg x hT⟩
theorem ActF.mono {w : World} {S T : Nat → Prop} {a : ActS} (h : ActF w S a) (hT : ∀ k, T k → S k) : ActF w T a := ⟨h.kind, h.name, h.other, h.data, h.n, h.kv.mono hT⟩
theorem ActOk.toF {w : World} {B : Nat} {a : ActS} (h : ActOk w B a) : ActF w (fun k => B ≤ k) a := ⟨h.kind, h.name, h.other, h.data, h.n, h.kv⟩
section
variable {w : World} {F : Nat → Prop} {d : Dk}
theorem DidR.later {v : Value} {x : Int × Dk} {r : Int} {w1 w' : World} (h : DidR w1 F v x r w') (hb : Below w.heap.size w w1) : DidR w F v x r w' := by
  obtain ⟨h1, F', h2, h3⟩ := h
  exact ⟨h1, F', h2, (Grow.same hb).trans h3⟩
set_option maxHeartbeats 4000000 in
theorem doneF_at {v : Value} (h : DiskAt w F v d) (a : ActS) (ha : ActF w F a) (hkl : a.keep.length ≤ 1099511627776) :
    Calls Try.prog 21 #[v, actV a] w fun e w' => ∃ r, e = .returned (.int .i64 r) ∧ DidG w F v (stepA d a) r w' := by
  obtain ⟨w1, hw1⟩ : ∃ w1, w1 = w.alloc (.cells #[.int .u8 a.kind, .string a.name, .string a.other, .string a.data, .int .i64 a.n, a.kv] 44 (0, 0)) := ⟨_, rfl⟩
  have hb1 : Below w.heap.size w w1 := by rw [hw1]; exact (Below.refl _ _).alloc (Nat.le_refl _) _
  have hblk : Blk w1 w.heap.size 44 #[.int .u8 a.kind, .string a.name, .string a.other, .string a.data, .int .i64 a.n, a.kv] := by rw [hw1]; exact Blk.alloc_new w _ _
  have h1 := h.below hb1
  have ha1 := ha.chg (Chg.of_below hb1) (T := fun _ => False) (fun _ e => e.elim)
  have hcr := crash_at h1 a.kv a.keep ha1.kv (by omega)
  have hfa := fail_at h1 a.n ha.n.2 a.kv a.keep ha1.kv hkl
  have hsy := sync_at h1 a.name ha.name
  have hrn := rename_at h1 a.name a.other ha.name ha.other
  have hrm := remove_at h1 a.name ha.name
  have hst := start_at h1
  have hap := append_at h1 a.name a.data ha.name ha.data
  have d0 := hblk.cell 0
  have d1 := hblk.cell 1
  have d2 := hblk.cell 2
  have d3 := hblk.cell 3
  have d4 := hblk.cell 4
  have d5 := hblk.cell 5
  simp at d0 d1 d2 d3 d4 d5
  have Hcr := Lib.hid hcr
  have Hfa := Lib.hid hfa
  have Hsy := Lib.hid hsy
  have Hrn := Lib.hid hrn
  have Hrm := Lib.hid hrm
  have Hst := Lib.hid hst
  have Hap := Lib.hid hap
  have Hb1 := Lib.hid hb1
  have HW := Lib.hid hw1
  have hk := ha.kind
  obtain ⟨bd, hv⟩ : ∃ bd, v = .pointer (some ⟨bd, 0, none⟩) := by obtain ⟨bd, _, _, _, e, _⟩ := h; exact ⟨bd, e⟩
  obtain ⟨m, hm⟩ : ∃ m, a.kind % 12 = m := ⟨_, rfl⟩
  have Hm := Lib.hid hm
  have hmi : (a.kind : Int) % 12 = (m : Int) := by omega
  have hm12 : m < 12 := by omega
  obtain ⟨k, hke⟩ : ∃ k : Int, k = a.kind := ⟨_, rfl⟩
  have hk0 : 0 ≤ k ∧ k < 256 := by omega
  unfold actV
  rw [← hke] at hmi d0 hw1 ⊢
  rw [← hke] at HW
  obtain ⟨hk1, hk2⟩ := hk0
  clear hw1 hb1 hblk h1 ha1 hcr hfa hsy hrn hrm hst hap h ha hkl hk hm hke
  unfold stepA
  rw [Hm.out]
  have hcs : m = 0 ∨ m = 1 ∨ m = 2 ∨ m = 3 ∨ m = 4 ∨ m = 5 ∨ m = 6 ∨ m = 7 ∨ m = 8 ∨ m = 9 ∨ m = 10 ∨ m = 11 := by omega
  clear hm12 Hm
  subst hv
  rcases hcs with rfl | rfl | rfl | rfl | rfl | rfl | rfl | rfl | rfl | rfl | rfl | rfl
  all_goals
    simp only [Nat.reduceEqDiff, or_self, or_true, true_or, if_true, if_false]
    go_enter Try.func21, Try.ntmps21
    go_wp2_with fail
    rw [← HW.out]
    first
      | (go_at_call 11; refine Hap.out.mono ?_; rintro e w' ⟨r, rfl, hd0⟩; have Hd := Lib.hid (hd0.any.later Hb1.out); clear hd0)
      | (go_at_call 12; refine Hsy.out.mono ?_; rintro e w' ⟨r, rfl, hd0⟩; have Hd := Lib.hid (hd0.any.later Hb1.out); clear hd0)
      | (go_at_call 14; refine Hrn.out.mono ?_; rintro e w' ⟨r, rfl, hd0⟩; have Hd := Lib.hid (hd0.any.later Hb1.out); clear hd0)
      | (go_at_call 23; refine Hrm.out.mono ?_; rintro e w' ⟨r, rfl, hd0⟩; have Hd := Lib.hid (hd0.any.later Hb1.out); clear hd0)
      | (go_at_call 35; refine Hcr.out.mono ?_; rintro e w' ⟨r, rfl, hd0⟩; have Hd := Lib.hid (hd0.any.later Hb1.out); clear hd0)
      | (go_at_call 15; refine Hst.out.mono ?_; rintro e w' ⟨r, rfl, hd0⟩; have Hd := Lib.hid (hd0.any.later Hb1.out); clear hd0)
      | (go_at_call 13; refine Hfa.out.mono ?_; rintro e w' ⟨r, rfl, hd0⟩; have Hd := Lib.hid (hd0.later Hb1.out); clear hd0)
    go_wp2_with fail
    go_ret
    exact ⟨r, rfl, Hd.out⟩
set_option maxHeartbeats 4000000 in
theorem saidF_at {v : Value} (h : RefAt w F v d) (a : ActS) (ha : ActF w F a) (hkl : a.keep.length ≤ 1099511627776) (hbig : a.data.size ≤ 4611686018427387904) :
    Calls Try.prog 25 #[v, actV a] w fun e w' => ∃ r, e = .returned (.int .i64 r) ∧ DidR w F v (stepA d a) r w' := by
  obtain ⟨w1, hw1⟩ : ∃ w1, w1 = w.alloc (.cells #[.int .u8 a.kind, .string a.name, .string a.other, .string a.data, .int .i64 a.n, a.kv] 44 (0, 0)) := ⟨_, rfl⟩
  have hb1 : Below w.heap.size w w1 := by rw [hw1]; exact (Below.refl _ _).alloc (Nat.le_refl _) _
  have hblk : Blk w1 w.heap.size 44 #[.int .u8 a.kind, .string a.name, .string a.other, .string a.data, .int .i64 a.n, a.kv] := by rw [hw1]; exact Blk.alloc_new w _ _
  have h1 := h.below hb1
  have ha1 := ha.chg (Chg.of_below hb1) (T := fun _ => False) (fun _ e => e.elim)
  have hcr := refCrash_at h1 a.kv a.keep ha1.kv (by omega)
  have hfa := refFail_at h1 a.n ha.n.2 a.kv a.keep ha1.kv hkl
  have hsy := refSync_at h1 a.name
  have hrn := refRename_at h1 a.name a.other ha.other
  have hrm := refRemove_at h1 a.name
  have hst := refStart_at h1
  have hap := refAppend_at h1 a.name a.data ha.name hbig
  have d0 := hblk.cell 0
  have d1 := hblk.cell 1
  have d2 := hblk.cell 2
  have d3 := hblk.cell 3
  have d4 := hblk.cell 4
  have d5 := hblk.cell 5
  simp at d0 d1 d2 d3 d4 d5
  have Hcr := Lib.hid hcr
  have Hfa := Lib.hid hfa
  have Hsy := Lib.hid hsy
  have Hrn := Lib.hid hrn
  have Hrm := Lib.hid hrm
  have Hst := Lib.hid hst
  have Hap := Lib.hid hap
  have Hb1 := Lib.hid hb1
  have HW := Lib.hid hw1
  have hk := ha.kind
  obtain ⟨bd, hv⟩ := h.ptr
  obtain ⟨m, hm⟩ : ∃ m, a.kind % 12 = m := ⟨_, rfl⟩
  have Hm := Lib.hid hm
  have hmi : (a.kind : Int) % 12 = (m : Int) := by omega
  have hm12 : m < 12 := by omega
  obtain ⟨k, hke⟩ : ∃ k : Int, k = a.kind := ⟨_, rfl⟩
  have hk0 : 0 ≤ k ∧ k < 256 := by omega
  unfold actV
  rw [← hke] at hmi d0 hw1 ⊢
  rw [← hke] at HW
  obtain ⟨hk1, hk2⟩ := hk0
  clear hw1 hb1 hblk h1 ha1 hcr hfa hsy hrn hrm hst hap h ha hkl hbig hk hm hke
  unfold stepA
  rw [Hm.out]
  have hcs : m = 0 ∨ m = 1 ∨ m = 2 ∨ m = 3 ∨ m = 4 ∨ m = 5 ∨ m = 6 ∨ m = 7 ∨ m = 8 ∨ m = 9 ∨ m = 10 ∨ m = 11 := by omega
  clear hm12 Hm
  subst hv
  rcases hcs with rfl | rfl | rfl | rfl | rfl | rfl | rfl | rfl | rfl | rfl | rfl | rfl
  all_goals
    simp only [Nat.reduceEqDiff, or_self, or_true, true_or, if_true, if_false]
    go_enter Try.func25, Try.ntmps25
    go_wp2_with fail
    rw [← HW.out]
    first
      | (go_at_call 56; refine Hap.out.mono ?_; rintro e w' ⟨r, rfl, hd0⟩; have Hd := Lib.hid (hd0.later Hb1.out); clear hd0)
      | (go_at_call 50; refine Hsy.out.mono ?_; rintro e w' ⟨r, rfl, hd0⟩; have Hd := Lib.hid (hd0.later Hb1.out); clear hd0)
      | (go_at_call 51; refine Hrn.out.mono ?_; rintro e w' ⟨r, rfl, hd0⟩; have Hd := Lib.hid (hd0.later Hb1.out); clear hd0)
      | (go_at_call 52; refine Hrm.out.mono ?_; rintro e w' ⟨r, rfl, hd0⟩; have Hd := Lib.hid (hd0.later Hb1.out); clear hd0)
      | (go_at_call 53; refine Hcr.out.mono ?_; rintro e w' ⟨r, rfl, hd0⟩; have Hd := Lib.hid (hd0.later Hb1.out); clear hd0)
      | (go_at_call 54; refine Hst.out.mono ?_; rintro e w' ⟨r, rfl, hd0⟩; have Hd := Lib.hid (hd0.later Hb1.out); clear hd0)
      | (go_at_call 55; refine Hfa.out.mono ?_; rintro e w' ⟨r, rfl, hd0⟩; have Hd := Lib.hid (hd0.later Hb1.out); clear hd0)
    go_wp2_with fail
    go_ret
    exact ⟨r, rfl, Hd.out⟩
end
section
variable {w0 w : World} {X : Nat → Prop} {a b : Value} {da db : Dk}
theorem Live.doneF (h : Live w0 X w a da) (x : ActS) (hx : ActF w (fun k => ¬ X k ∧ w0.heap.size ≤ k) x) (hkl : x.keep.length ≤ 1099511627776) :
    Calls Try.prog 21 #[a, actV x] w fun e w' => e = .returned (.int .i64 (stepA da x).1) ∧ Live w0 X w' a (stepA da x).2 ∧ Keeps X w w' :=
  h.of fun _ hd hF => doneF_at hd x (hx.mono fun k e => ⟨(hF k e).2, (hF k e).1⟩) hkl
theorem RLive.saidF (h : RLive w0 X w a da) (x : ActS) (hx : ActF w (fun k => ¬ X k ∧ w0.heap.size ≤ k) x) (hkl : x.keep.length ≤ 1099511627776) (hbig : x.data.size ≤ 4611686018427387904) :
    Calls Try.prog 25 #[a, actV x] w fun e w' => e = .returned (.int .i64 (stepA da x).1) ∧ RLive w0 X w' a (stepA da x).2 ∧ Keeps X w w' :=
  h.of fun _ hd hF => saidF_at hd x (hx.mono fun k e => ⟨(hF k e).2, (hF k e).1⟩) hkl hbig
theorem Mate.done (h : Mate w0 X w a b da db) (x : ActS) (hx : ActF w (fun k => ¬ X k ∧ w0.heap.size ≤ k) x) (hkl : x.keep.length ≤ 1099511627776) :
    Calls Try.prog 21 #[a, actV x] w fun e w' => e = .returned (.int .i64 (stepA da x).1) ∧ Mate w0 X w' a b (stepA da x).2 db ∧ Keeps X w w' :=
  h.on (Q := fun e => e = .returned (.int .i64 (stepA da x).1)) fun _ hX l => l.doneF x (hx.mono fun k e => ⟨fun c => e.1 (hX k c), e.2⟩) hkl
theorem Mate.said (h : Mate w0 X w a b da db) (x : ActS) (hx : ActF w (fun k => ¬ X k ∧ w0.heap.size ≤ k) x) (hkl : x.keep.length ≤ 1099511627776) (hbig : x.data.size ≤ 4611686018427387904) :
    Calls Try.prog 25 #[b, actV x] w fun e w' => e = .returned (.int .i64 (stepA db x).1) ∧ Mate w0 X w' a b da (stepA db x).2 ∧ Keeps X w w' :=
  h.onR (Q := fun e => e = .returned (.int .i64 (stepA db x).1)) fun _ hX l => l.saidF x (hx.mono fun k e => ⟨fun c => e.1 (hX k c), e.2⟩) hkl hbig
end
end Go.Proofs.Ytnngdflamkdgaaa

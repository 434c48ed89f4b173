/- 'done': an act, by the program. -/
import Derived.Test.YtnngdflamkdgaaaActs
import Derived.Test.YtnngdflamkdgaaaCrashAt
namespace Go.Proofs.Ytnngdflamkdgaaa
open Go.RowKit Go.Maps
open Dsk

section
variable {w : World} {F : Nat → Prop} {d : Dk}
set_option maxHeartbeats 4000000 in
theorem done_at {v : Value} {B : Nat} (h : DiskAt w F v d) (hF : ∀ k, F k → B ≤ k) (a : ActS) (ha : ActOk w B a) (hkl : a.keep.length ≤ 1099511627776) :
    Calls Try.prog 21 #[v, actV a] w fun e w' => ∃ r, e = .returned (.int .i64 r) ∧ DidG w F v (stepA d a) r w' := by
  obtain ⟨w1, hw1⟩ : ∃ w1, w1 = w.alloc (.cells #[.int .u8 a.kind, .string a.name, .string a.other, .string a.data, .int .i64 a.n, a.kv] 44 (0, 0)) := ⟨_, rfl⟩
  have hb1 : Below w.heap.size w w1 := by rw [hw1]; exact (Below.refl _ _).alloc (Nat.le_refl _) _
  have hblk : Blk w1 w.heap.size 44 #[.int .u8 a.kind, .string a.name, .string a.other, .string a.data, .int .i64 a.n, a.kv] := by rw [hw1]; exact Blk.alloc_new w _ _
  have h1 := h.below hb1
  have ha1 := ha.chg (Chg.of_below hb1) (T := fun _ => False) (fun _ e => e.elim)
  have hcr := crash_at h1 a.kv a.keep (ha1.kv.mono hF) (by omega)
  have hfa := fail_at h1 a.n ha.n.2 a.kv a.keep ha1.kv hkl
  have hsy := sync_at h1 a.name ha.name
  have hrn := rename_at h1 a.name a.other ha.name ha.other
  have hrm := remove_at h1 a.name ha.name
  have hst := start_at h1
  have hap := append_at h1 a.name a.data ha.name ha.data
  have d0 := hblk.cell 0
  have d1 := hblk.cell 1
  have d2 := hblk.cell 2
  have d3 := hblk.cell 3
  have d4 := hblk.cell 4
  have d5 := hblk.cell 5
  simp at d0 d1 d2 d3 d4 d5
  have Hcr := Lib.hid hcr
  have Hfa := Lib.hid hfa
  have Hsy := Lib.hid hsy
  have Hrn := Lib.hid hrn
  have Hrm := Lib.hid hrm
  have Hst := Lib.hid hst
  have Hap := Lib.hid hap
  have Hb1 := Lib.hid hb1
  have HW := Lib.hid hw1
  have hk := ha.kind
  obtain ⟨bd, hv⟩ : ∃ bd, v = .pointer (some ⟨bd, 0, none⟩) := by obtain ⟨bd, _, _, _, e, _⟩ := h; exact ⟨bd, e⟩
  obtain ⟨m, hm⟩ : ∃ m, a.kind % 12 = m := ⟨_, rfl⟩
  have Hm := Lib.hid hm
  have hmi : (a.kind : Int) % 12 = (m : Int) := by omega
  have hm12 : m < 12 := by omega
  obtain ⟨k, hke⟩ : ∃ k : Int, k = a.kind := ⟨_, rfl⟩
  have hk0 : 0 ≤ k ∧ k < 256 := by omega
  unfold actV
  rw [← hke] at hmi d0 hw1 ⊢
  rw [← hke] at HW
  obtain ⟨hk1, hk2⟩ := hk0
  clear hw1 hb1 hblk h1 ha1 hcr hfa hsy hrn hrm hst hap h hF ha hkl hk hm hke
  unfold stepA
  rw [Hm.out]
  have hcs : m = 0 ∨ m = 1 ∨ m = 2 ∨ m = 3 ∨ m = 4 ∨ m = 5 ∨ m = 6 ∨ m = 7 ∨ m = 8 ∨ m = 9 ∨ m = 10 ∨ m = 11 := by omega
  clear hm12 Hm
  subst hv
  rcases hcs with rfl | rfl | rfl | rfl | rfl | rfl | rfl | rfl | rfl | rfl | rfl | rfl
  all_goals
    simp only [Nat.reduceEqDiff, or_self, or_true, true_or, if_true, if_false]
    go_enter Try.func21, Try.ntmps21
    go_wp2_with fail
    rw [← HW.out]
    first
      | (go_at_call 11; refine Hap.out.mono ?_; rintro e w' ⟨r, rfl, hd0⟩; have Hd := Lib.hid (hd0.any.later Hb1.out); clear hd0)
      | (go_at_call 12; refine Hsy.out.mono ?_; rintro e w' ⟨r, rfl, hd0⟩; have Hd := Lib.hid (hd0.any.later Hb1.out); clear hd0)
      | (go_at_call 14; refine Hrn.out.mono ?_; rintro e w' ⟨r, rfl, hd0⟩; have Hd := Lib.hid (hd0.any.later Hb1.out); clear hd0)
      | (go_at_call 23; refine Hrm.out.mono ?_; rintro e w' ⟨r, rfl, hd0⟩; have Hd := Lib.hid (hd0.any.later Hb1.out); clear hd0)
      | (go_at_call 35; refine Hcr.out.mono ?_; rintro e w' ⟨r, rfl, hd0⟩; have Hd := Lib.hid (hd0.any.later Hb1.out); clear hd0)
      | (go_at_call 15; refine Hst.out.mono ?_; rintro e w' ⟨r, rfl, hd0⟩; have Hd := Lib.hid (hd0.any.later Hb1.out); clear hd0)
      | (go_at_call 13; refine Hfa.out.mono ?_; rintro e w' ⟨r, rfl, hd0⟩; have Hd := Lib.hid (hd0.later Hb1.out); clear hd0)
    go_wp2_with fail
    go_ret
    exact ⟨r, rfl, Hd.out⟩
end
end Go.Proofs.Ytnngdflamkdgaaa

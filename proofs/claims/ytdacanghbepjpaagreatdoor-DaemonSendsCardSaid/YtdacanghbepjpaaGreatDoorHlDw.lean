/- A host's log that does not run (its disk fell, or was started since): what its acts answer: walked. -/
import Derived.Test.YtdacanghbepjpaaGreatDoorM7
namespace Go.Proofs.YtdacanghbepjpaaGreatDoor
set_option linter.unusedSimpArgs false
set_option linter.unusedVariables false
set_option maxRecDepth 100000
open Go.RowKit Go.Maps
open Dsk

section
variable {w0 w w' : World} {X H : Nat → Prop} {v : Value} {d : Dk} {j : Nat} {h : Hl}
set_option maxHeartbeats 1000000 in
theorem happend_down (h0 : HS w0 X H w v d j h) (hrun : ¬ h.runs d) (x : Sp.Span) : Calls Tryz.prog 20 #[.pointer (some ⟨j, 0, none⟩), spV x] w fun e w' => e = .returned (.int .i64 51) ∧ Below w.heap.size w w' := by
  have HR := Lib.hid (fun (W : World) (hW : Below w.heap.size w W) => hruns_any (h0.below hW))
  rw [if_neg hrun] at HR
  clear h0 hrun
  unfold spV
  have HB := Lib.hid (fun (o : Obj) => show Below w.heap.size w (w.alloc o) from (Below.refl _ _).alloc (Nat.le_refl _) _)
  go_enter Tryz.func20, Tryz.ntmps20
  go_wp2_with fail
  refine (HR.out _ (HB.out _)).mono ?_
  rintro e w1 ⟨rfl, hb1⟩
  have HB1 := Lib.hid ((HB.out _).trans (hb1.mono (HB.out _).size))
  clear hb1
  go_wp2_with fail
  go_ret
  exact ⟨rfl, HB1.out⟩
set_option maxHeartbeats 1000000 in
theorem hretain_down (h0 : HS w0 X H w v d j h) (hrun : ¬ h.runs d) (n : Int) : Calls Tryz.prog 90 #[.pointer (some ⟨j, 0, none⟩), .int .i64 n] w fun e w' => e = .returned (.int .i64 51) ∧ Below w.heap.size w w' := by
  have HR := Lib.hid (hruns_any h0)
  rw [if_neg hrun] at HR
  clear h0 hrun
  go_enter Tryz.func90, Tryz.ntmps90
  go_wp2_with fail
  refine HR.out.mono ?_
  rintro e w1 ⟨rfl, hb1⟩
  have HB := Lib.hid hb1
  clear hb1
  go_wp2_with fail
  go_ret
  exact ⟨rfl, HB.out⟩
theorem lastPtr_ptr (lv : Value) (n : Nat) : ∃ a, lastPtr lv n = .pointer a := by
  unfold lastPtr
  split
  · exact ⟨_, rfl⟩
  · exact ⟨_, rfl⟩
set_option maxHeartbeats 1000000 in
theorem hsync_down (h0 : HS w0 X H w v d j h) (hrun : ¬ h.runs d) (hm : h.l.length ≤ 1000000) : Calls Tryz.prog 22 #[.pointer (some ⟨j, 0, none⟩)] w fun e w' => e = .returned (.int .i64 51) ∧ Below w.heap.size w w' := by
  have HR := Lib.hid (hruns_any h0)
  rw [if_neg hrun] at HR
  obtain ⟨lv, vs, ho⟩ := h0.open_
  have HL := Lib.hid (fun (W : World) (hW : Below w.heap.size w W) => hend_any (ho.below hW).blk (ho.below hW).rows hm)
  obtain ⟨a, ha⟩ := lastPtr_ptr lv h.l.length
  rw [ha] at HL
  clear h0 ho hrun ha
  go_enter Tryz.func22, Tryz.ntmps22
  go_wp2_with fail
  refine HR.out.mono ?_
  rintro e w1 ⟨rfl, hb1⟩
  have HB := Lib.hid hb1
  clear hb1
  go_wp2_with fail
  refine (HL.out w1 HB.out).mono ?_
  rintro e w2 ⟨rfl, hb2⟩
  have HB2 := Lib.hid (HB.out.trans (hb2.mono HB.out.size))
  clear hb2
  go_wp2_with fail
  go_ret
  exact ⟨rfl, HB2.out⟩
set_option maxHeartbeats 1000000 in
theorem hrotate_down (h0 : HS w0 X H w v d j h) (hrun : ¬ h.runs d) (hm : h.l.length ≤ 1000000) : Calls Tryz.prog 89 #[.pointer (some ⟨j, 0, none⟩)] w fun e w' => e = .returned (.int .i64 51) ∧ Below w.heap.size w w' := by
  have HR := Lib.hid (hruns_any h0)
  rw [if_neg hrun] at HR
  obtain ⟨lv, vs, ho⟩ := h0.open_
  have HL := Lib.hid (fun (W : World) (hW : Below w.heap.size w W) => hend_any (ho.below hW).blk (ho.below hW).rows hm)
  obtain ⟨a, ha⟩ := lastPtr_ptr lv h.l.length
  rw [ha] at HL
  clear h0 ho hrun ha
  go_enter Tryz.func89, Tryz.ntmps89
  go_wp2_with fail
  refine HR.out.mono ?_
  rintro e w1 ⟨rfl, hb1⟩
  have HB := Lib.hid hb1
  clear hb1
  go_wp2_with fail
  refine (HL.out w1 HB.out).mono ?_
  rintro e w2 ⟨rfl, hb2⟩
  have HB2 := Lib.hid (HB.out.trans (hb2.mono HB.out.size))
  clear hb2
  go_wp2_with fail
  go_ret
  exact ⟨rfl, HB2.out⟩
end
end Go.Proofs.YtdacanghbepjpaaGreatDoor

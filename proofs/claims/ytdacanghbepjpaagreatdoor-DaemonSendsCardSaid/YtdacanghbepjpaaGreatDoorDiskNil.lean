/- A disk that is none: what its functions answer. -/
import Derived.Test.YtdacanghbepjpaaGreatDoorM4
namespace Go.Proofs.YtdacanghbepjpaaGreatDoor
set_option maxRecDepth 100000
open Go.RowKit Go.Maps
open Dsk

/-- v is no disk: nil, or one that New did not make. -/
def NilD (w : World) (v : Value) : Prop := v = .pointer none ∨ ∃ b, v = .pointer (some ⟨b, 0, none⟩) ∧ b < w.heap.size ∧ w.cell? ⟨b, 3, none⟩ = some (.map none)
theorem NilD.below {w w' : World} {v : Value} (h : NilD w v) (x : Below w.heap.size w w') : NilD w' v := by
  rcases h with h | ⟨b, e, hb, hc⟩
  · exact .inl h
  · exact .inr ⟨b, e, Nat.lt_of_lt_of_le hb x.size, (x.cell (p := ⟨b, 3, none⟩) hb).trans hc⟩
theorem files_neq_nil (w : World) : (binOp .neq 154 (.map none) (.map none)).run Tryz.prog w = .ok (.bool false) w := run_neq_map_nil w _ _ _ none under_files
section
variable {w : World} {v : Value}
theorem is_nil (h : NilD w v) : Calls Tryz.prog 158 #[v] w fun e w' => e = .returned (.bool false) ∧ w = w' := by
  rcases h with rfl | ⟨b, rfl, hb, hc⟩
  · go_enter Tryz.func158, Tryz.ntmps158
    go_wp2_with fail
    go_ret
    exact ⟨rfl, rfl⟩
  · have hmn := files_neq_nil w
    go_enter Tryz.func158, Tryz.ntmps158
    go_wp2_with fail
    go_ret
    exact ⟨rfl, rfl⟩
theorem runs_nil (h : NilD w v) : Calls Tryz.prog 99 #[v] w fun e w' => e = .returned (.int .i64 1) ∧ w = w' := by
  have hi := is_nil h
  clear h
  go_enter Tryz.func99, Tryz.ntmps99
  go_wp2_with (go_at_call 158; refine hi.mono ?_; rintro e w' ⟨rfl, rfl⟩)
  go_ret
  exact ⟨rfl, rfl⟩
theorem up_nil (h : NilD w v) : Calls Tryz.prog 37 #[v] w fun e w' => e = .returned (.bool false) ∧ w = w' := by
  have hi := runs_nil h
  clear h
  go_enter Tryz.func37, Tryz.ntmps37
  go_wp2_with (go_at_call 99; refine hi.mono ?_; rintro e w' ⟨rfl, rfl⟩)
  go_ret
  exact ⟨rfl, rfl⟩
theorem starts_nil (h : NilD w v) : Calls Tryz.prog 127 #[v] w fun e w' => e = .returned (.int .i64 0) ∧ w = w' := by
  have hi := is_nil h
  clear h
  go_enter Tryz.func127, Tryz.ntmps127
  go_wp2_with (go_at_call 158; refine hi.mono ?_; rintro e w' ⟨rfl, rfl⟩)
  go_ret
  exact ⟨rfl, rfl⟩
theorem synced_nil (h : NilD w v) (name : ByteArray) : Calls Tryz.prog 149 #[v, .string name] w fun e w' => e = .returned (.int .i64 0) ∧ w = w' := by
  have hi := is_nil h
  clear h
  go_enter Tryz.func149, Tryz.ntmps149
  go_wp2_with (go_at_call 158; refine hi.mono ?_; rintro e w' ⟨rfl, rfl⟩)
  go_ret
  exact ⟨rfl, rfl⟩
theorem names_nil (h : NilD w v) : Calls Tryz.prog 159 #[v] w fun e w' => e = .returned (.slice none 0 0) ∧ w = w' := by
  have hi := is_nil h
  clear h
  go_enter Tryz.func159, Tryz.ntmps159
  go_wp2_with (go_at_call 158; refine hi.mono ?_; rintro e w' ⟨rfl, rfl⟩)
  go_ret
  exact ⟨rfl, rfl⟩
theorem size_nil (h : NilD w v) : Calls Tryz.prog 138 #[v] w fun e w' => e = .returned (.int .i64 0) ∧ w = w' := by
  have hi := names_nil h
  clear h
  go_enter Tryz.func138, Tryz.ntmps138
  go_wp2_with (go_at_call 159; refine hi.mono ?_; rintro e w' ⟨rfl, rfl⟩)
  go_loop [3, 5, 9] (fun v3 _ v9 => v3 = .int .i64 0 ∧ v9 = .int .i64 0) (fun _ _ _ => 0)
  case atStart => exact ⟨rfl, rfl⟩
  case round =>
    obtain ⟨rfl, rfl⟩ := hrel
    go_wp2_with fail
    go_ret
    exact ⟨rfl, rfl⟩
theorem open_nil (h : NilD w v) (name : ByteArray) : Calls Tryz.prog 142 #[v, .string name] w fun e w' => e = .returned (.tuple #[.agg #[.string ⟨#[]⟩, .int .i64 0], .int .i64 1]) ∧ Below w.heap.size w w' := by
  have hi := runs_nil (h.below ((Below.refl _ _).alloc (Nat.le_refl _) (.cells #[.string ⟨#[]⟩, .int .i64 0] 185 (0, 0))))
  clear h
  go_enter Tryz.func142, Tryz.ntmps142
  go_wp2_with (go_at_call 99; refine hi.mono ?_; rintro e w' ⟨rfl, rfl⟩)
  refine bodyPost_ret (v := .tuple #[.agg #[.string ⟨#[]⟩, .int .i64 0], .int .i64 1]) (by simp [results, Tryz.results142, go_sem]) rfl ⟨rfl, ?_⟩
  exact (Below.refl _ _).alloc (Nat.le_refl _) _
theorem append_nil (h : NilD w v) (name s : ByteArray) : Calls Tryz.prog 79 #[v, .string name, .string s] w fun e w' => e = .returned (.int .i64 1) ∧ w = w' := by
  have hi := runs_nil h
  clear h
  go_enter Tryz.func79, Tryz.ntmps79
  go_wp2_with (go_at_call 99; refine hi.mono ?_; rintro e w' ⟨rfl, rfl⟩)
  go_ret
  exact ⟨rfl, rfl⟩
theorem crash_nil (h : NilD w v) (kv : Value) : Calls Tryz.prog 120 #[v, kv] w fun e w' => e = .returned (.int .i64 1) ∧ w = w' := by
  have hi := runs_nil h
  clear h
  go_enter Tryz.func120, Tryz.ntmps120
  go_wp2_with (go_at_call 99; refine hi.mono ?_; rintro e w' ⟨rfl, rfl⟩)
  go_ret
  exact ⟨rfl, rfl⟩
theorem start_nil (h : NilD w v) : Calls Tryz.prog 38 #[v] w fun e w' => e = .returned (.int .i64 1) ∧ w = w' := by
  have hi := runs_nil h
  clear h
  go_enter Tryz.func38, Tryz.ntmps38
  go_wp2_with (go_at_call 99; refine hi.mono ?_; rintro e w' ⟨rfl, rfl⟩)
  go_ret
  exact ⟨rfl, rfl⟩
theorem fail_nil (h : NilD w v) (n : Int) (kv : Value) : Calls Tryz.prog 34 #[v, .int .i64 n, kv] w fun e w' => e = .returned (.int .i64 1) ∧ Below w.heap.size w w' := by
  have hi := runs_nil (h.below ((Below.refl _ _).alloc (Nat.le_refl _) (.cells #[.int .i64 n] 3 (0, 0))))
  clear h
  go_enter Tryz.func34, Tryz.ntmps34
  go_wp2_with (go_at_call 99; refine hi.mono ?_; rintro e w' ⟨rfl, rfl⟩)
  go_ret
  exact ⟨rfl, (Below.refl _ _).alloc (Nat.le_refl _) _⟩
theorem read_nil (h : NilD w v) (name : ByteArray) : Calls Tryz.prog 125 #[v, .string name] w fun e w' => e = .returned (.tuple #[.string ⟨#[]⟩, .int .i64 1]) ∧ Below w.heap.size w w' := by
  have hi := open_nil h name
  clear h
  go_enter Tryz.func125, Tryz.ntmps125
  go_wp2_with fail
  refine hi.mono ?_
  rintro e w1 ⟨rfl, hb⟩
  have Hb := Lib.hid hb
  have hz := hb.size
  clear hb
  go_wp2_with fail
  go_ret2
  exact ⟨rfl, Hb.out.alloc hz _⟩
theorem sync_nil (h : NilD w v) (name : ByteArray) : Calls Tryz.prog 84 #[v, .string name] w fun e w' => e = .returned (.int .i64 1) ∧ Below w.heap.size w w' := by
  have hb0 : Below w.heap.size w ((w.alloc (.cells #[v] 32 (0, 0))).alloc (.cells #[.string name] 9 (0, 0))) := ((Below.refl _ _).alloc (Nat.le_refl _) _).alloc (by simp) _
  have Ho := Lib.hid (open_nil (h.below hb0) name)
  have Hb0 := Lib.hid hb0
  have hv : v = .pointer none ∨ ∃ b, v = .pointer (some ⟨b, 0, none⟩) := by rcases h with h | ⟨b, h, _⟩ <;> simp [h]
  clear h hb0
  rcases hv with rfl | ⟨b, rfl⟩
  all_goals
    go_enter Tryz.func84, Tryz.ntmps84
    go_wp2_with fail
    refine Ho.out.mono ?_
    rintro e w1 ⟨rfl, hb⟩
    have Hb := Lib.hid hb
    have hz := hb.size
    have hz0 := Hb0.out.size
    clear hb
    go_wp2_with fail
    go_ret
    exact ⟨rfl, (Hb0.out.trans (Hb.out.mono hz0)).alloc (by omega) _⟩
theorem remove_nil (h : NilD w v) (name : ByteArray) : Calls Tryz.prog 146 #[v, .string name] w fun e w' => e = .returned (.int .i64 1) ∧ Below w.heap.size w w' := by
  have hb0 : Below w.heap.size w ((w.alloc (.cells #[v] 32 (0, 0))).alloc (.cells #[.string name] 9 (0, 0))) := ((Below.refl _ _).alloc (Nat.le_refl _) _).alloc (by simp) _
  have Ho := Lib.hid (open_nil (h.below hb0) name)
  have Hb0 := Lib.hid hb0
  have hv : v = .pointer none ∨ ∃ b, v = .pointer (some ⟨b, 0, none⟩) := by rcases h with h | ⟨b, h, _⟩ <;> simp [h]
  clear h hb0
  rcases hv with rfl | ⟨b, rfl⟩
  all_goals
    go_enter Tryz.func146, Tryz.ntmps146
    go_wp2_with fail
    refine Ho.out.mono ?_
    rintro e w1 ⟨rfl, hb⟩
    have Hb := Lib.hid hb
    have hz := hb.size
    have hz0 := Hb0.out.size
    clear hb
    go_wp2_with fail
    go_ret
    exact ⟨rfl, (Hb0.out.trans (Hb.out.mono hz0)).alloc (by omega) _⟩
theorem rename_nil (h : NilD w v) (name to : ByteArray) : Calls Tryz.prog 171 #[v, .string name, .string to] w fun e w' => e = .returned (.int .i64 1) ∧ Below w.heap.size w w' := by
  have hb0 : Below w.heap.size w (((w.alloc (.cells #[v] 32 (0, 0))).alloc (.cells #[.string name] 9 (0, 0))).alloc (.cells #[.string to] 9 (0, 0))) := (((Below.refl _ _).alloc (Nat.le_refl _) _).alloc (by simp) _).alloc (by simp; omega) _
  have Ho := Lib.hid (open_nil (h.below hb0) name)
  have Hb0 := Lib.hid hb0
  have hv : v = .pointer none ∨ ∃ b, v = .pointer (some ⟨b, 0, none⟩) := by rcases h with h | ⟨b, h, _⟩ <;> simp [h]
  clear h hb0
  rcases hv with rfl | ⟨b, rfl⟩
  all_goals
    go_enter Tryz.func171, Tryz.ntmps171
    go_wp2_with fail
    refine Ho.out.mono ?_
    rintro e w1 ⟨rfl, hb⟩
    have Hb := Lib.hid hb
    have hz := hb.size
    have hz0 := Hb0.out.size
    clear hb
    go_wp2_with fail
    go_ret
    exact ⟨rfl, (Hb0.out.trans (Hb.out.mono hz0)).alloc (by omega) _⟩
end
end Go.Proofs.YtdacanghbepjpaaGreatDoor

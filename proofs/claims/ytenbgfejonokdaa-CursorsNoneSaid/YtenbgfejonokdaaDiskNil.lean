/- A disk that is none: what its functions answer. -/
import Derived.Test.YtenbgfejonokdaaCrashAt
namespace Go.Proofs.Ytenbgfejonokdaa
set_option maxRecDepth 100000
open Go.RowKit Go.Maps
open Dsk

/-- v is no disk: nil, or one that New did not make. -/
def NilD (w : World) (v : Value) : Prop := v = .pointer none ∨ ∃ b, v = .pointer (some ⟨b, 0, none⟩) ∧ b < w.heap.size ∧ w.cell? ⟨b, 3, none⟩ = some (.map none)
theorem NilD.below {w w' : World} {v : Value} (h : NilD w v) (x : Below w.heap.size w w') : NilD w' v := by
  rcases h with h | ⟨b, e, hb, hc⟩
  · exact .inl h
  · exact .inr ⟨b, e, Nat.lt_of_lt_of_le hb x.size, (x.cell (p := ⟨b, 3, none⟩) hb).trans hc⟩
theorem files_neq_nil (w : World) : (binOp .neq 32 (.map none) (.map none)).run Try.prog w = .ok (.bool false) w := run_neq_map_nil w _ _ _ none under_files
section
variable {w : World} {v : Value}
theorem is_nil (h : NilD w v) : Calls Try.prog 76 #[v] w fun e w' => e = .returned (.bool false) ∧ w = w' := by
  rcases h with rfl | ⟨b, rfl, hb, hc⟩
  · go_enter Try.func76, Try.ntmps76
    go_wp2_with fail
    go_ret
    exact ⟨rfl, rfl⟩
  · have hmn := files_neq_nil w
    go_enter Try.func76, Try.ntmps76
    go_wp2_with fail
    go_ret
    exact ⟨rfl, rfl⟩
theorem runs_nil (h : NilD w v) : Calls Try.prog 71 #[v] w fun e w' => e = .returned (.int .i64 1) ∧ w = w' := by
  have hi := is_nil h
  clear h
  go_enter Try.func71, Try.ntmps71
  go_wp2_with (go_at_call 76; refine hi.mono ?_; rintro e w' ⟨rfl, rfl⟩)
  go_ret
  exact ⟨rfl, rfl⟩
theorem up_nil (h : NilD w v) : Calls Try.prog 67 #[v] w fun e w' => e = .returned (.bool false) ∧ w = w' := by
  have hi := runs_nil h
  clear h
  go_enter Try.func67, Try.ntmps67
  go_wp2_with (go_at_call 71; refine hi.mono ?_; rintro e w' ⟨rfl, rfl⟩)
  go_ret
  exact ⟨rfl, rfl⟩
theorem starts_nil (h : NilD w v) : Calls Try.prog 94 #[v] w fun e w' => e = .returned (.int .i64 0) ∧ w = w' := by
  have hi := is_nil h
  clear h
  go_enter Try.func94, Try.ntmps94
  go_wp2_with (go_at_call 76; refine hi.mono ?_; rintro e w' ⟨rfl, rfl⟩)
  go_ret
  exact ⟨rfl, rfl⟩
theorem synced_nil (h : NilD w v) (name : ByteArray) : Calls Try.prog 27 #[v, .string name] w fun e w' => e = .returned (.int .i64 0) ∧ w = w' := by
  have hi := is_nil h
  clear h
  go_enter Try.func27, Try.ntmps27
  go_wp2_with (go_at_call 76; refine hi.mono ?_; rintro e w' ⟨rfl, rfl⟩)
  go_ret
  exact ⟨rfl, rfl⟩
theorem names_nil (h : NilD w v) : Calls Try.prog 25 #[v] w fun e w' => e = .returned (.slice none 0 0) ∧ w = w' := by
  have hi := is_nil h
  clear h
  go_enter Try.func25, Try.ntmps25
  go_wp2_with (go_at_call 76; refine hi.mono ?_; rintro e w' ⟨rfl, rfl⟩)
  go_ret
  exact ⟨rfl, rfl⟩
theorem size_nil (h : NilD w v) : Calls Try.prog 73 #[v] w fun e w' => e = .returned (.int .i64 0) ∧ w = w' := by
  have hi := names_nil h
  clear h
  go_enter Try.func73, Try.ntmps73
  go_wp2_with (go_at_call 25; refine hi.mono ?_; rintro e w' ⟨rfl, rfl⟩)
  go_loop [3, 5, 9] (fun v3 _ v9 => v3 = .int .i64 0 ∧ v9 = .int .i64 0) (fun _ _ _ => 0)
  case atStart => exact ⟨rfl, rfl⟩
  case round =>
    obtain ⟨rfl, rfl⟩ := hrel
    go_wp2_with fail
    go_ret
    exact ⟨rfl, rfl⟩
theorem unsynced_nil (h : NilD w v) : Calls Try.prog 92 #[v] w fun e w' => e = .returned (.slice none 0 0) ∧ w = w' := by
  have hi := names_nil h
  clear h
  go_enter Try.func92, Try.ntmps92
  go_wp2_with (go_at_call 25; refine hi.mono ?_; rintro e w' ⟨rfl, rfl⟩)
  go_loop [3, 5, 6, 10] (fun v3 _ _ v10 => v3 = .slice none 0 0 ∧ v10 = .int .i64 0) (fun _ _ _ _ => 0)
  case atStart => exact ⟨rfl, rfl⟩
  case round =>
    obtain ⟨rfl, rfl⟩ := hrel
    go_wp2_with fail
    go_ret
    exact ⟨rfl, rfl⟩
theorem open_nil (h : NilD w v) (name : ByteArray) : Calls Try.prog 79 #[v, .string name] w fun e w' => e = .returned (.tuple #[.agg #[.string ⟨#[]⟩, .int .i64 0], .int .i64 1]) ∧ Below w.heap.size w w' := by
  have hi := runs_nil (h.below ((Below.refl _ _).alloc (Nat.le_refl _) (.cells #[.string ⟨#[]⟩, .int .i64 0] 102 (0, 0))))
  clear h
  go_enter Try.func79, Try.ntmps79
  go_wp2_with (go_at_call 71; refine hi.mono ?_; rintro e w' ⟨rfl, rfl⟩)
  refine bodyPost_ret (v := .tuple #[.agg #[.string ⟨#[]⟩, .int .i64 0], .int .i64 1]) (by simp [results, Try.results79, go_sem]) rfl ⟨rfl, ?_⟩
  exact (Below.refl _ _).alloc (Nat.le_refl _) _
theorem append_nil (h : NilD w v) (name s : ByteArray) : Calls Try.prog 24 #[v, .string name, .string s] w fun e w' => e = .returned (.int .i64 1) ∧ w = w' := by
  have hi := runs_nil h
  clear h
  go_enter Try.func24, Try.ntmps24
  go_wp2_with (go_at_call 71; refine hi.mono ?_; rintro e w' ⟨rfl, rfl⟩)
  go_ret
  exact ⟨rfl, rfl⟩
theorem crash_nil (h : NilD w v) (kv : Value) : Calls Try.prog 23 #[v, kv] w fun e w' => e = .returned (.int .i64 1) ∧ w = w' := by
  have hi := runs_nil h
  clear h
  go_enter Try.func23, Try.ntmps23
  go_wp2_with (go_at_call 71; refine hi.mono ?_; rintro e w' ⟨rfl, rfl⟩)
  go_ret
  exact ⟨rfl, rfl⟩
theorem start_nil (h : NilD w v) : Calls Try.prog 30 #[v] w fun e w' => e = .returned (.int .i64 1) ∧ w = w' := by
  have hi := runs_nil h
  clear h
  go_enter Try.func30, Try.ntmps30
  go_wp2_with (go_at_call 71; refine hi.mono ?_; rintro e w' ⟨rfl, rfl⟩)
  go_ret
  exact ⟨rfl, rfl⟩
theorem fail_nil (h : NilD w v) (n : Int) (kv : Value) : Calls Try.prog 29 #[v, .int .i64 n, kv] w fun e w' => e = .returned (.int .i64 1) ∧ Below w.heap.size w w' := by
  have hi := runs_nil (h.below ((Below.refl _ _).alloc (Nat.le_refl _) (.cells #[.int .i64 n] 3 (0, 0))))
  clear h
  go_enter Try.func29, Try.ntmps29
  go_wp2_with (go_at_call 71; refine hi.mono ?_; rintro e w' ⟨rfl, rfl⟩)
  go_ret
  exact ⟨rfl, (Below.refl _ _).alloc (Nat.le_refl _) _⟩
theorem read_nil (h : NilD w v) (name : ByteArray) : Calls Try.prog 26 #[v, .string name] w fun e w' => e = .returned (.tuple #[.string ⟨#[]⟩, .int .i64 1]) ∧ Below w.heap.size w w' := by
  have hi := open_nil h name
  clear h
  go_enter Try.func26, Try.ntmps26
  go_wp2_with fail
  refine hi.mono ?_
  rintro e w1 ⟨rfl, hb⟩
  have Hb := Lib.hid hb
  have hz := hb.size
  clear hb
  go_wp2_with fail
  go_ret2
  exact ⟨rfl, Hb.out.alloc hz _⟩
theorem sync_nil (h : NilD w v) (name : ByteArray) : Calls Try.prog 69 #[v, .string name] w fun e w' => e = .returned (.int .i64 1) ∧ Below w.heap.size w w' := by
  have hb0 : Below w.heap.size w ((w.alloc (.cells #[v] 31 (0, 0))).alloc (.cells #[.string name] 9 (0, 0))) := ((Below.refl _ _).alloc (Nat.le_refl _) _).alloc (by simp) _
  have Ho := Lib.hid (open_nil (h.below hb0) name)
  have Hb0 := Lib.hid hb0
  have hv : v = .pointer none ∨ ∃ b, v = .pointer (some ⟨b, 0, none⟩) := by rcases h with h | ⟨b, h, _⟩ <;> simp [h]
  clear h hb0
  rcases hv with rfl | ⟨b, rfl⟩
  all_goals
    go_enter Try.func69, Try.ntmps69
    go_wp2_with fail
    refine Ho.out.mono ?_
    rintro e w1 ⟨rfl, hb⟩
    have Hb := Lib.hid hb
    have hz := hb.size
    have hz0 := Hb0.out.size
    clear hb
    go_wp2_with fail
    go_ret
    exact ⟨rfl, (Hb0.out.trans (Hb.out.mono hz0)).alloc (by omega) _⟩
theorem remove_nil (h : NilD w v) (name : ByteArray) : Calls Try.prog 68 #[v, .string name] w fun e w' => e = .returned (.int .i64 1) ∧ Below w.heap.size w w' := by
  have hb0 : Below w.heap.size w ((w.alloc (.cells #[v] 31 (0, 0))).alloc (.cells #[.string name] 9 (0, 0))) := ((Below.refl _ _).alloc (Nat.le_refl _) _).alloc (by simp) _
  have Ho := Lib.hid (open_nil (h.below hb0) name)
  have Hb0 := Lib.hid hb0
  have hv : v = .pointer none ∨ ∃ b, v = .pointer (some ⟨b, 0, none⟩) := by rcases h with h | ⟨b, h, _⟩ <;> simp [h]
  clear h hb0
  rcases hv with rfl | ⟨b, rfl⟩
  all_goals
    go_enter Try.func68, Try.ntmps68
    go_wp2_with fail
    refine Ho.out.mono ?_
    rintro e w1 ⟨rfl, hb⟩
    have Hb := Lib.hid hb
    have hz := hb.size
    have hz0 := Hb0.out.size
    clear hb
    go_wp2_with fail
    go_ret
    exact ⟨rfl, (Hb0.out.trans (Hb.out.mono hz0)).alloc (by omega) _⟩
theorem rename_nil (h : NilD w v) (name to : ByteArray) : Calls Try.prog 70 #[v, .string name, .string to] w fun e w' => e = .returned (.int .i64 1) ∧ Below w.heap.size w w' := by
  have hb0 : Below w.heap.size w (((w.alloc (.cells #[v] 31 (0, 0))).alloc (.cells #[.string name] 9 (0, 0))).alloc (.cells #[.string to] 9 (0, 0))) := (((Below.refl _ _).alloc (Nat.le_refl _) _).alloc (by simp) _).alloc (by simp; omega) _
  have Ho := Lib.hid (open_nil (h.below hb0) name)
  have Hb0 := Lib.hid hb0
  have hv : v = .pointer none ∨ ∃ b, v = .pointer (some ⟨b, 0, none⟩) := by rcases h with h | ⟨b, h, _⟩ <;> simp [h]
  clear h hb0
  rcases hv with rfl | ⟨b, rfl⟩
  all_goals
    go_enter Try.func70, Try.ntmps70
    go_wp2_with fail
    refine Ho.out.mono ?_
    rintro e w1 ⟨rfl, hb⟩
    have Hb := Lib.hid hb
    have hz := hb.size
    have hz0 := Hb0.out.size
    clear hb
    go_wp2_with fail
    go_ret
    exact ⟨rfl, (Hb0.out.trans (Hb.out.mono hz0)).alloc (by omega) _⟩
end
end Go.Proofs.Ytenbgfejonokdaa

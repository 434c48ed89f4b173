/- The disk's small functions, walked. -/
import Derived.Test.YtnngdflamkdgaaaDisk
import Derived.Laws.EntriesVeiled
namespace Go.Proofs.Ytnngdflamkdgaaa
set_option maxRecDepth 100000
open Go.RowKit Go.Maps
open Dsk

theorem toList_nil (s : ByteArray) : s.toList = [] ↔ s.size = 0 := by
  rw [ByteArray.toList_eq]
  have : s.size = s.data.toList.length := by simp
  rw [this, List.length_eq_zero_iff]
theorem files_neq (w : World) (b : Nat) : (binOp .neq 57 (.map (some b)) (.map none)).run Try.prog w = .ok (.bool true) w := run_neq_map_nil w _ _ _ (some b) under_files

theorem file_data (w : World) (s : ByteArray) (n : Int) : (Instr.field 72 (.agg #[.string s, .int .i64 n]) 0).run Try.prog w = .ok (.string s) w := by kernel_rfl
theorem file_safe (w : World) (s : ByteArray) (n : Int) : (Instr.field 72 (.agg #[.string s, .int .i64 n]) 1).run Try.prog w = .ok (.int .i64 n) w := by kernel_rfl
theorem wpList_safe {ops : Array Oper} {rest : List Oper} {o : Oper} {a : Act} {Q : Exit → Act → World → Prop} {w : World} (hg : o.guard = none) (x : Operand) (hop : o.op = Op.field 72 x 1) (s : ByteArray) (n : Int) (hx : a.eval x = .agg #[.string s, .int .i64 n])
    (hK : wpList Try.prog ops Q rest (a.put o.dst (.int .i64 n)) w) : wpList Try.prog ops Q (o :: rest) a w :=
  wpList_runs hg (by simp only [execOp, hop, hx]; rw [Sem.run_bind, file_safe]; rfl) hK
theorem wpList_data {ops : Array Oper} {rest : List Oper} {o : Oper} {a : Act} {Q : Exit → Act → World → Prop} {w : World} (hg : o.guard = none) (x : Operand) (hop : o.op = Op.field 72 x 0) (s : ByteArray) (n : Int) (hx : a.eval x = .agg #[.string s, .int .i64 n])
    (hK : wpList Try.prog ops Q rest (a.put o.dst (.string s)) w) : wpList Try.prog ops Q (o :: rest) a w :=
  wpList_runs hg (by simp only [execOp, hop, hx]; rw [Sem.run_bind, file_data]; rfl) hK

section
variable {w : World} {F : Nat → Prop} {bd bm : Nat} {cv kv : Value} {d : Dk}
theorem is_in (h : DiskIn w F bd bm cv kv d) : Calls Try.prog 46 #[.pointer (some ⟨bd, 0, none⟩)] w fun e w' => e = .returned (.bool true) ∧ w = w' := by
  have c3 := h.blk.cell 3
  simp at c3
  clear h
  have hmn := files_neq w bm
  go_enter Try.func46, Try.ntmps46
  go_wp2_with fail
  go_ret
  exact ⟨rfl, rfl⟩
theorem runs_in (h : DiskIn w F bd bm cv kv d) : Calls Try.prog 38 #[.pointer (some ⟨bd, 0, none⟩)] w fun e w' => e = .returned (.int .i64 (if d.off then 51 else 0)) ∧ w = w' := by
  have c2 := h.blk.cell 2
  simp at c2
  have his := is_in h
  clear h
  cases hoff : d.off
  all_goals
    rw [hoff] at c2
    clear hoff
    go_enter Try.func38, Try.ntmps38
    go_wp2_with (go_at_call 46; refine his.mono ?_; rintro e w' ⟨rfl, rfl⟩)
    go_ret
    exact ⟨rfl, rfl⟩
theorem named_size (s : ByteArray) : Named s.data.toList ↔ 1 ≤ s.size ∧ s.size ≤ 16 := by
  have hl : s.data.toList.length = s.size := by simp
  unfold Named; rw [hl]
theorem named_any (s : ByteArray) (w : World) (hs : s.size ≤ maxLen) {b : Bool} (hb : Named s.data.toList ↔ b = true) : Calls Try.prog 39 #[.string s] w fun e w' => e = .returned (.bool b) ∧ w = w' := by
  unfold maxLen at hs
  have HB := Lib.hid ((named_size s).symm.trans hb)
  have HZ := Lib.hid (toList_nil s)
  clear hb
  go_enter Try.func39, Try.ntmps39
  go_wp2
  · have h0 : s.toList = [] := by assumption
    go_ret
    have h1 := HZ.out.1 h0
    refine ⟨?_, rfl⟩
    cases b with
    | false => rfl
    | true => have := HB.out.2 rfl; omega
  · have h0 : ¬ s.toList = [] := by assumption
    go_ret
    have h1 : ¬ s.size = 0 := fun e => h0 (HZ.out.2 e)
    refine ⟨?_, rfl⟩
    have e1 : s.toList.isEmpty = false := by simpa using h0
    show Ending.returned (.bool (!s.toList.isEmpty && decide ((s.size : Int) ≤ 16))) = _
    rw [e1]
    by_cases h2 : s.size ≤ 16
    · rw [decide_eq_true (show (s.size : Int) ≤ 16 by omega), HB.out.1 ⟨by omega, h2⟩]; rfl
    · rw [decide_eq_false (show ¬ (s.size : Int) ≤ 16 by omega)]
      cases b with
      | false => rfl
      | true => exact absurd (HB.out.2 rfl).2 h2
theorem up_in (h : DiskIn w F bd bm cv kv d) : Calls Try.prog 31 #[.pointer (some ⟨bd, 0, none⟩)] w fun e w' => e = .returned (.bool (!d.off)) ∧ w = w' := by
  have hr := runs_in h
  clear h
  cases hoff : d.off
  all_goals
    simp only [hoff] at hr
    clear hoff
    go_enter Try.func31, Try.ntmps31
    go_wp2_with (go_at_call 38; refine hr.mono ?_; rintro e w' ⟨rfl, rfl⟩)
    go_ret
    exact ⟨rfl, rfl⟩
theorem starts_in (h : DiskIn w F bd bm cv kv d) : Calls Try.prog 32 #[.pointer (some ⟨bd, 0, none⟩)] w fun e w' => e = .returned (.int .i64 d.starts) ∧ w = w' := by
  have c1 := h.blk.cell 1
  simp at c1
  have his := is_in h
  clear h
  go_enter Try.func32, Try.ntmps32
  go_wp2_with (go_at_call 46; refine his.mono ?_; rintro e w' ⟨rfl, rfl⟩)
  go_ret
  exact ⟨rfl, rfl⟩
theorem synced_in (h : DiskIn w F bd bm cv kv d) (name : ByteArray) (hn : name.size ≤ maxLen) : Calls Try.prog 27 #[.pointer (some ⟨bd, 0, none⟩), .string name] w fun e w' => e = .returned (.int .i64 (d.synced name.data.toList)) ∧ w = w' := by
  have c3 := h.blk.cell 3
  simp at c3
  have his := is_in h
  have Hm := Lib.hid h.map
  obtain ⟨s, n, hf, hd⟩ : ∃ (s : ByteArray) (n : Nat), (get d.files name.data.toList).getD ⟨[], 0⟩ = ⟨s.data.toList, n⟩ ∧ d.synced name.data.toList = n := by
    unfold Dk.synced
    cases get d.files name.data.toList with
    | none => exact ⟨⟨#[]⟩, 0, rfl, rfl⟩
    | some f => exact ⟨⟨f.data.toArray⟩, f.safe, rfl, rfl⟩
  rw [hd]
  have Hf := Lib.hid hf
  clear h hf hd
  go_enter Try.func27, Try.ntmps27
  go_wp2_with (first
    | (go_at_call 46; refine his.mono ?_; rintro e w' ⟨rfl, rfl⟩)
    | (at_lookup; refine wpList_look rfl (.tmp 11) (.tmp 12) rfl bm _ rfl Hm.out name rfl hn s n Hf.out ?_)
    | (refine wpList_safe rfl (.tmp 13) rfl s n rfl ?_))
  go_ret
  exact ⟨rfl, rfl⟩
theorem file_is (o : Option Fl) : ∃ (s : ByteArray) (n : Nat), o.getD ⟨[], 0⟩ = ⟨s.data.toList, n⟩ := ⟨⟨(o.getD ⟨[], 0⟩).data.toArray⟩, (o.getD ⟨[], 0⟩).safe, rfl⟩
/-- 'open': the file, or why there is none. -/
def Dk.opened (d : Dk) (name : Str) : Fl × Int :=
  if d.off then (⟨[], 0⟩, 51) else match get d.files name with | none => (⟨[], 0⟩, 4) | some f => (f, 0)
def flV (f : Fl) : Value := .agg #[.string ⟨f.data.toArray⟩, .int .i64 f.safe]
theorem open_in (h : DiskIn w F bd bm cv kv d) (name : ByteArray) (hn : name.size ≤ maxLen) : Calls Try.prog 42 #[.pointer (some ⟨bd, 0, none⟩), .string name] w fun e w' => e = .returned (.tuple #[flV (Dk.opened d name.data.toList).1, .int .i64 (Dk.opened d name.data.toList).2]) ∧ Below w.heap.size w w' := by
  have c3 := h.blk.cell 3
  simp at c3
  have hbd := h.blk.lt
  have hr := runs_in (h.below ((Below.refl _ _).alloc (Nat.le_refl _) (.cells #[.string ⟨#[]⟩, .int .i64 0] 72 (0, 0))))
  have Hm := Lib.hid h.map
  clear h
  unfold Dk.opened
  cases hoff : d.off
  · simp only [hoff] at hr
    cases hg : get d.files name.data.toList with
    | none =>
      have Hg := Lib.hid hg
      clear hoff hg
      go_enter Try.func42, Try.ntmps42
      go_wp2_with (first
        | (go_at_call 38; refine hr.mono ?_; rintro e w' ⟨rfl, rfl⟩)
        | (at_lookup; refine wpList_look_ok rfl (.tmp 19) (.tmp 20) rfl bm _ rfl (Hm.out.below ((Below.refl _ _).alloc (Nat.le_refl _) _)) name rfl hn ⟨#[]⟩ 0 false (by rw [Hg.out]; rfl) (by rw [Hg.out]; rfl) ?_))
      refine bodyPost_ret (v := .tuple #[flV ⟨[], 0⟩, .int .i64 4]) (by simp [results, Try.results42, go_sem, flV]) rfl ⟨rfl, ?_⟩
      exact ((Below.refl _ _).alloc (Nat.le_refl _) _).alloc (by simp) _
    | some f =>
      have Hg := Lib.hid hg
      obtain ⟨s, n, hsn⟩ : ∃ (s : ByteArray) (n : Nat), f = ⟨s.data.toList, n⟩ := ⟨⟨f.data.toArray⟩, f.safe, rfl⟩
      have Hsn := Lib.hid hsn
      clear hoff hg hsn
      go_enter Try.func42, Try.ntmps42
      go_wp2_with (first
        | (go_at_call 38; refine hr.mono ?_; rintro e w' ⟨rfl, rfl⟩)
        | (at_lookup; refine wpList_look_ok rfl (.tmp 19) (.tmp 20) rfl bm _ rfl (Hm.out.below ((Below.refl _ _).alloc (Nat.le_refl _) _)) name rfl hn s n true (by rw [Hg.out, Hsn.out]; rfl) (by rw [Hg.out]; rfl) ?_))
      refine bodyPost_ret (v := .tuple #[.agg #[.string s, .int .i64 n], .int .i64 0]) (by simp [results, Try.results42, go_sem]) rfl ⟨by rw [Hsn.out]; rfl, ?_⟩
      exact ((Below.refl _ _).alloc (Nat.le_refl _) _).alloc (by simp) _
  · simp only [hoff] at hr
    clear hoff
    go_enter Try.func42, Try.ntmps42
    go_wp2_with (go_at_call 38; refine hr.mono ?_; rintro e w' ⟨rfl, rfl⟩)
    refine bodyPost_ret (v := .tuple #[flV ⟨[], 0⟩, .int .i64 51]) (by simp [results, Try.results42, go_sem, flV]) rfl ⟨rfl, ?_⟩
    exact ((Below.refl _ _).alloc (Nat.le_refl _) _)
end
end Go.Proofs.Ytnngdflamkdgaaa

/- The disk's Read, Start, New, Fail. -/
import Derived.Test.YtnngdflamkdgaaaDisk11
import Derived.Laws.AppendOwnNone
namespace Go.Proofs.Ytnngdflamkdgaaa
set_option maxRecDepth 100000
open Go.RowKit Go.Maps
open Dsk

section
variable {w : World} {F : Nat → Prop} {d : Dk}
theorem read_is (d : Dk) (name : Str) : Dk.opened d name = (⟨(d.read name).1, (Dk.opened d name).1.safe⟩, (d.read name).2) := by
  unfold Dk.opened Dk.read
  split
  · rfl
  · cases get d.files name <;> rfl
set_option maxHeartbeats 1000000 in
theorem read_at {v : Value} (h : DiskAt w F v d) (name : ByteArray) (hn : name.size ≤ maxLen) :
    Calls Try.prog 16 #[v, .string name] w fun e w' => e = .returned (.tuple #[.string ⟨(d.read name.data.toList).1.toArray⟩, .int .i64 (d.read name.data.toList).2]) ∧ Below w.heap.size w w' := by
  obtain ⟨bd, bm, cv, kv, rfl, h, hf⟩ := h
  have ho := open_in h name hn
  rw [read_is] at ho
  obtain ⟨s, hs⟩ : ∃ s : ByteArray, s = ⟨(d.read name.data.toList).1.toArray⟩ := ⟨_, rfl⟩
  obtain ⟨r, hr⟩ : ∃ r, r = (d.read name.data.toList).2 := ⟨_, rfl⟩
  obtain ⟨n, hn2⟩ : ∃ n, n = (Dk.opened d name.data.toList).1.safe := ⟨_, rfl⟩
  unfold flV at ho
  simp only [← hs, ← hr, ← hn2] at ho ⊢
  have Ho := Lib.hid ho
  clear h hf ho hs hr hn2
  go_enter Try.func16, Try.ntmps16
  go_wp2_with fail
  refine Ho.out.mono ?_
  rintro e w1 ⟨rfl, hb1⟩
  have Hb1 := Lib.hid hb1
  have hz1 := hb1.size
  clear hb1
  go_wp2_with fail
  go_ret2
  exact ⟨rfl, Hb1.out.alloc hz1 _⟩
theorem DiskIn.head {bd bm : Nat} {cv kv : Value} {d d' : Dk} (h : DiskIn w F bd bm cv kv d) {w' : World} (hb : Blk w' bd 59 #[.int .i64 d'.room, .int .i64 d'.starts, .bool d'.off, .map (some bm), cv, kv]) (hc : Chg (· = bd) w w')
    (hm : d'.files = d.files) (hk : d'.fail = d.fail ∧ d'.keep = d.keep) (hok : Ok d') : DiskIn w' F bd bm cv kv d' := by
  refine ⟨hb, by rw [hm]; exact h.map.chg hc (map_ne_blk h.map h.blk), ?_, by rw [hk.2]; exact h.row.chg hc (fun k hk => (h.fk k hk).2.1), h.fd, h.fm, h.fk, hok, fun k hk => Nat.lt_of_lt_of_le (h.lt k hk) hc.size⟩
  rw [hk.1]
  have h1 := h.fn
  unfold CrashFn at *
  split
  · rename_i e; rw [e] at h1; exact h1
  · rename_i n e
    rw [e] at h1
    obtain ⟨bc, e, hb2, hF⟩ := h1
    refine ⟨bc, e, hb2.chg hc (fun e2 => ?_), hF⟩
    subst e2
    have a := h.blk; unfold Blk at a hb2; rw [a] at hb2; simp at hb2
set_option maxHeartbeats 1000000 in
theorem start_at {v : Value} (h : DiskAt w F v d) : Calls Try.prog 15 #[v] w fun e w' => ∃ r, e = .returned (.int .i64 r) ∧ Did w F v d.start r w' := by
  have hat := h
  obtain ⟨bd, bm, cv, kv, rfl, h, hf⟩ := h
  have hr := runs_in h
  have c1 := h.blk.cell 1
  have f1 := h.blk.free 1
  have c2 := h.blk.cell 2
  have f2 := h.blk.free 2
  simp at c1 c2
  have Hat := Lib.hid hat
  have H := Lib.hid h
  have Hf := Lib.hid hf
  unfold Dk.start
  cases hoff : d.off
  · simp only [hoff] at hr
    clear h hat hf hoff
    go_enter Try.func15, Try.ntmps15
    go_wp2_with (go_at_call 38; refine hr.mono ?_; rintro e w' ⟨rfl, rfl⟩)
    go_ret
    exact ⟨2, rfl, Did.same Hat.out (Below.refl _ _) _⟩
  · simp only [hoff] at hr
    have Hoff := Lib.hid hoff
    have hst := H.out.ok.starts
    clear h hat hf hoff
    go_enter Try.func15, Try.ntmps15
    go_wp2_with (go_at_call 38; refine hr.mono ?_; rintro e w' ⟨rfl, rfl⟩)
    go_ret
    refine ⟨0, rfl, rfl, ⟨bd, bm, cv, kv, rfl, ?_, FOk.same Hf.out rfl⟩, ((put_wr w bd 2 _).trans (put_wr _ bd 1 _)).mono fun _ _ e => e ▸ H.out.fd⟩
    have hb := (H.out.blk.set 2 (.bool false)).set 1 (.int .i64 (wrap64 (d.starts + 1)))
    have ew : wrap64 (d.starts + 1) = IntKind.i64.wrap (d.starts + 1) := by unfold wrap64; rw [IntKind.wrap_i64]
    rw [ew] at hb ⊢
    have hok := H.out.ok.start
    unfold Dk.start at hok
    rw [if_pos Hoff.out] at hok
    refine H.out.head hb ((put_wr w bd 2 _).trans (put_wr _ bd 1 _)) ?_ ?_ hok
    · rfl
    · exact ⟨rfl, rfl⟩
/-- All blocks from B on that w has. -/
def From (B : Nat) (w : World) (k : Nat) : Prop := B ≤ k ∧ k < w.heap.size
theorem new_no (c : Int) (w : World) (h : c < 1 ∨ 1048576 < c) : Calls Try.prog 10 #[.int .i64 c] w fun e w' => e = .returned (.tuple #[.pointer none, .int .i64 2]) ∧ w = w' := by
  by_cases h1 : c < 1
  · go_enter Try.func10, Try.ntmps10
    go_wp2
    go_ret2
    exact ⟨rfl, rfl⟩
  · have h2 : (1048576 : Int) < c := by omega
    go_enter Try.func10, Try.ntmps10
    go_wp2
    go_ret2
    exact ⟨rfl, rfl⟩
theorem new_yes (c : Nat) (w : World) (h1 : 1 ≤ c) (h2 : c ≤ 1048576) : Calls Try.prog 10 #[.int .i64 c] w fun e w' => ∃ v, e = .returned (.tuple #[v, .int .i64 0]) ∧ DiskAt w' (From w.heap.size w') v (Dk.new c) ∧ Below w.heap.size w w' := by
  have hmm := @run_makeMap Try.prog
  have g1 : ¬ (c : Int) < 1 := by omega
  have g2 : ¬ (1048576 : Int) < c := by omega
  go_enter Try.func10, Try.ntmps10
  go_wp2
  go_ret2
  refine ⟨_, rfl, ?_, ((Below.refl _ _).alloc (Nat.le_refl _) _).alloc (by simp) _⟩
  have hm : OwnM (w.alloc (.map #[] 0)) w.heap.size [] := World.ownsMap_made w _ _ _
  have hb := Blk.alloc_new (w.alloc (.map #[] 0)) 59 #[.int .i64 c, .int .i64 0, .bool false, .map (some w.heap.size), .nilFunc, .slice none 0 0]
  refine ⟨(w.alloc (.map #[] 0)).heap.size, w.heap.size, .nilFunc, .slice none 0 0, by simp, ⟨hb, hm.below ((Below.refl _ _).alloc (Nat.le_refl _) _), rfl, OwnI.nil _ _, ⟨by simp, by simp⟩, ⟨Nat.le_refl _, by simp; omega⟩, fun k hk => (by cases hk), Ok.new h1 h2, fun k hk => hk.2⟩, fun n e => (by cases e)⟩
/-- What any act leaves: maybe in more blocks. -/
def DidG (w : World) (F : Nat → Prop) (v : Value) (x : Int × Dk) (r : Int) (w' : World) : Prop := r = x.1 ∧ ∃ F', DiskAt w' F' v x.2 ∧ Grow F F' w w'
theorem Did.any {v : Value} {x : Int × Dk} {r : Int} {w' : World} (h : Did w F v x r w') : DidG w F v x r w' := ⟨h.1, F, h.2.1, h.2.2, fun _ e => .inl e⟩
theorem DidG.same {v : Value} (h : DiskAt w F v d) {w' : World} (hb : Below w.heap.size w w') (r : Int) : DidG w F v (r, d) r w' := (Did.same h hb r).any
theorem OwnI.shape {w : World} {B : Nat} {v : Value} {l : List Int} (h : OwnI w B v l) : ∃ x c, v = .slice x l.length c := by
  obtain ⟨_, ⟨e, hl⟩ | ⟨g, cap, cur, hv, _⟩⟩ := h
  · exact ⟨none, 0, by rw [e, hl]⟩
  · exact ⟨_, _, hv⟩
/-- 'append([]int(nil), s...)'. -/
theorem wpList_copy_ints {ops : Array Oper} {rest : List Oper} {o : Oper} {a : Act} {Q : Exit → Act → World → Prop} (hgd : o.guard = none) (s x : Operand)
    (ho : o.op = .call { callee := .builtin .append, args := #[s, x], argTypes := #[23, 23] })
    (hs : a.eval s = .slice none 0 0) (v : Value) (hx : a.eval x = v) {S : Nat → Prop} (l : List Int) (hk : KeepR w S v l) (hl : l.length ≤ 1099511627776)
    (h : ∀ v' w', OwnI w' w.heap.size v' l → Below w.heap.size w w' → wpList Try.prog ops Q rest (a.put o.dst v') w') : wpList Try.prog ops Q (o :: rest) a w := by
  obtain ⟨i0, hi, hz0, hz1, hz2⟩ := info_parts Try.info_int
  obtain ⟨y, c, rfl, hy, hc⟩ := hk
  have hn := OwnI.nil w w.heap.size
  cases y with
  | none =>
    obtain rfl := hy rfl
    have hl0 : l = [] := by
      cases l with
      | nil => rfl
      | cons z l => obtain ⟨b, off, e, _⟩ := hc 0 (by simp); cases e
    subst hl0
    exact wpList_append_own_none hgd s x 23 ho w.heap.size 3 i0 1 under_ints hi (.slice none 0 0) 0 [] hs hn hx (h _ _ (OwnI.nil _ _) (Below.refl _ _))
  | some ad =>
    refine wpList_append_own _ hgd s x 23 ho w.heap.size 3 i0 (.int .i64 0) 1 8 under_ints hi hz0 hz1 hz2 rfl (by decide) (.slice none 0 0) 0 [] hs hn ad l.length c (l.map (Value.int .i64)) hx (by simp) ?_ ?_ ?_ ?_ (Nat.le_refl _) ?_
    · intro j u hj
      have hj' : j < l.length := by
        have := (List.getElem?_eq_some_iff.1 hj).1
        simpa using this
      obtain ⟨b, off, e, _, _, hcell⟩ := hc j hj'
      obtain rfl := Option.some.inj e
      have e2 : (⟨b, off, none⟩ : Addr).add j = ⟨b, off + j, none⟩ := by unfold Addr.add; split <;> simp_all
      rw [e2, hcell]
      simp [hj'] at hj
      rw [← hj]
    · intro u hu
      obtain ⟨x, _, rfl⟩ := List.mem_map.1 hu
      rfl
    · unfold maxLen; omega
    · omega
    · intro v' w' h1 h2 _
      refine h v' w' ?_ (hn.below h2 (Nat.le_refl _))
      unfold OwnI
      simpa using h1
set_option maxHeartbeats 1000000 in
theorem fail_at {v : Value} (h : DiskAt w F v d) (n : Int) (hn : n ≤ 9223372036854775807) (kv0 : Value) (keep : List Int) {S : Nat → Prop} (hk : KeepR w S kv0 keep) (hkl : keep.length ≤ 1099511627776) :
    Calls Try.prog 13 #[v, .int .i64 n, kv0] w fun e w' => ∃ r, e = .returned (.int .i64 r) ∧ DidG w F v (d.failAt n keep) r w' := by
  have hat := h
  obtain ⟨bd, bm, cv, kv, rfl, h, hf⟩ := h
  have hbd := h.blk.lt
  obtain ⟨w0, hw0⟩ : ∃ w0, w0 = w.alloc (.cells #[.int .i64 n] 3 (0, 0)) := ⟨_, rfl⟩
  have hb0 : Below w.heap.size w w0 := by rw [hw0]; exact (Below.refl _ _).alloc (Nat.le_refl _) _
  have hz0 : w0.heap.size = w.heap.size + 1 := by rw [hw0]; simp
  have hr := runs_in (h.below hb0)
  have hc0 : Blk w0 w.heap.size 3 #[.int .i64 n] := by rw [hw0]; exact Blk.alloc_new w _ _
  have p0 := hc0.cell 0
  simp at p0
  have Hat := Lib.hid hat
  have H := Lib.hid h
  have Hf := Lib.hid hf
  have Hb0 := Lib.hid hb0
  have HW := Lib.hid hw0
  have Hc0 := Lib.hid hc0
  have Hk := Lib.hid (hk.chg (Chg.of_below hb0) (T := fun _ => False) (fun _ e => e.elim))
  unfold Dk.failAt
  clear h hat hf hb0 hc0 hk
  cases hoff : d.off
  case true =>
    rw [if_pos rfl]
    simp only [hoff] at hr
    clear hoff hw0
    go_enter Try.func13, Try.ntmps13
    go_wp2_with fail
    rw [← HW.out]
    refine hr.mono ?_
    rintro e w' ⟨rfl, rfl⟩
    go_wp2_with fail
    go_ret
    exact ⟨51, rfl, DidG.same Hat.out Hb0.out _⟩
  rw [if_neg (by simp)]
  simp only [hoff] at hr
  by_cases hn0 : n < 0
  · rw [if_pos hn0]
    clear hoff hw0
    go_enter Try.func13, Try.ntmps13
    go_wp2_with fail
    rw [← HW.out]
    refine hr.mono ?_
    rintro e w' ⟨rfl, rfl⟩
    go_wp2_with fail
    go_ret
    exact ⟨2, rfl, DidG.same Hat.out Hb0.out _⟩
  · rw [if_neg hn0]
    have Hoff := Lib.hid hoff
    clear hoff hw0
    go_enter Try.func13, Try.ntmps13
    go_wp2_with fail
    rw [← HW.out]
    refine hr.mono ?_
    rintro e w' ⟨rfl, rfl⟩
    have c5 := (H.out.blk.below Hb0.out).cell 5
    have f5 := (H.out.blk.below Hb0.out).free 5
    have c4 := (H.out.blk.below Hb0.out).cell 4
    have f4 := (H.out.blk.below Hb0.out).free 4
    simp at c5 c4
    go_wp2_with (at_builtin; refine wpList_copy_ints rfl _ _ rfl rfl kv0 rfl keep Hk.out hkl ?_; intro v1 w1 hown hb1; obtain ⟨x1, cap1, hv1⟩ := hown.shape; subst hv1; have Hown := Lib.hid hown; have Hb1 := Lib.hid hb1; have hz1 := hb1.size; have d5 := (hb1.cell (p := ⟨bd, 5, none⟩) (show bd < _ by omega)).trans c5; have e5 := (hb1.frozen (p := ⟨bd, 5, none⟩) (show bd < _ by omega)).trans f5; have d4 := (hb1.cell (p := ⟨bd, 4, none⟩) (show bd < _ by omega)).trans c4; have e4 := (hb1.frozen (p := ⟨bd, 4, none⟩) (show bd < _ by omega)).trans f4; clear hown hb1 c5 f5 c4 f4 p0)
    go_ret
    have hz2 := Hb1.out.size
    have hb := (((H.out.blk.below Hb0.out).below Hb1.out).set 5 (.slice x1 keep.length cap1)).set 4 (.func (.func 44) #[] #[.pointer (some ⟨w.heap.size, 0, none⟩)])
    rw [Hoff.out] at hb
    have hch : Chg (· = bd) w1 _ := (put_wr w1 bd 5 (.slice x1 keep.length cap1)).trans (put_wr _ bd 4 (.func (.func 44) #[] #[.pointer (some ⟨w.heap.size, 0, none⟩)]))
    have h1 := (H.out.below Hb0.out).below Hb1.out
    have hne : w.heap.size ≠ bd := by omega
    have hok : Ok { d with off := false, fail := some n, keep := keep } := by
      have := H.out.ok.failAt n keep hkl
      unfold Dk.failAt at this
      rw [Hoff.out, if_neg (by simp), if_neg (by omega)] at this
      exact this
    refine ⟨0, rfl, rfl, fun k => F k ∨ (w.heap.size ≤ k ∧ k < w1.heap.size), ⟨bd, bm, _, _, rfl, ⟨hb, h1.map.chg hch (map_ne_blk h1.map h1.blk), ⟨w.heap.size, rfl, (Hc0.out.below Hb1.out).chg hch hne, .inr ⟨Nat.le_refl _, by omega⟩⟩, (Hown.out.base (Nat.zero_le _)).chg hch ?_, .inl h1.fd, .inl h1.fm, ?_, hok, ?_⟩, ?_⟩, ?_, ?_⟩
    · intro k hk e
      have := (World.ownsRow.lt Hown.out k hk).1
      omega
    · intro k hk
      have hk2 := World.ownsRow.lt Hown.out k hk
      refine ⟨.inr ⟨by omega, hk2.2⟩, by omega, fun e => ?_⟩
      simp at e <;> omega
    · intro k hk
      have := hch.size
      rcases hk with hk | hk
      · have := h1.lt k hk; omega
      · omega
    · intro k e
      have : n = k := by simpa using e
      omega
    · have hcc : Chg F w w1 := (Chg.of_below Hb0.out).trans (Chg.of_below Hb1.out)
      exact hcc.trans (hch.mono fun _ _ e => e ▸ h1.fd)
    · rintro k (hk | hk)
      · exact .inl hk
      · exact .inr hk.1
end
end Go.Proofs.Ytnngdflamkdgaaa

/- The disk's closures: what a change does. -/
import Derived.Test.YtnngdflamkdgaaaDisk7
namespace Go.Proofs.Ytnngdflamkdgaaa
set_option maxRecDepth 100000
open Go.RowKit Go.Maps
open Dsk

theorem Chg.old {F : Nat → Prop} {w w' : World} (h : Chg (fun k => F k ∨ w.heap.size ≤ k) w w') : Chg F w w' := h.mono fun k hk e => e.elim id fun x => absurd hk (by omega)
section
variable {w : World} {F : Nat → Prop} {bd bm : Nat} {cv kv : Value} {d : Dk}
set_option maxHeartbeats 1000000 in
theorem sync_fn (h : DiskIn w F bd bm cv kv d) {bf bp bn : Nat} {s name : ByteArray} {n : Nat} (hf : Blk w bf 72 #[.string s, .int .i64 n]) (hp : Blk w bp 24 #[.pointer (some ⟨bd, 0, none⟩)]) (hb : Blk w bn 9 #[.string name])
    (hn : name.size ≤ maxLen) :
    Calls Try.prog 43 #[.pointer (some ⟨bf, 0, none⟩), .pointer (some ⟨bp, 0, none⟩), .pointer (some ⟨bn, 0, none⟩)] w fun e w' => e = .returned (.tuple #[]) ∧ OwnM w' bm (put d.files name.data.toList ⟨s.data.toList, s.size⟩) ∧ Chg (fun k => k = bf ∨ k = bm) w w' := by
  have hc := h.ok.count
  have c3 := h.blk.cell 3
  have c0 := hf.cell 0
  have f1 := hf.free 1
  have c1 := hf.cell 1
  simp at c3 c0 c1
  obtain ⟨w1, hw1⟩ : ∃ w1, w1 = w.setCell ⟨bf, 1, none⟩ (.int .i64 s.size) := ⟨_, rfl⟩
  have hch : Chg (· = bf) w w1 := by rw [hw1]; exact put_wr _ _ _ _
  have hne : bm ≠ bf := map_ne_blk h.map hf
  have hned : bd ≠ bf := fun e => by have a := h.blk; subst e; unfold Blk at a hf; rw [a] at hf; simp at hf
  have hnep : bp ≠ bf := fun e => by subst e; unfold Blk at hp hf; rw [hp] at hf; simp at hf
  have hnen : bn ≠ bf := fun e => by subst e; unfold Blk at hb hf; rw [hb] at hf; simp at hf
  have d3 := (h.blk.chg hch hned).cell 3
  have d4 := (hp.chg hch hnep).cell 0
  have d5 := (hb.chg hch hnen).cell 0
  have hbf : Blk w1 bf 72 #[.string s, .int .i64 s.size] := by rw [hw1]; exact hf.set 1 _
  have d6 := hbf.cell 0
  have d7 := hbf.cell 1
  simp at d3 d4 d5 d6 d7
  have Hm := Lib.hid (h.map.chg hch hne)
  have Hch := Lib.hid hch
  have HW := Lib.hid hw1
  have Hc := Lib.hid hc
  clear h hf hp hb hch hw1 hbf hc hne hned hnep hnen
  go_enter Try.func43, Try.ntmps43
  go_wp2_with fail
  rw [← HW.out]
  refine wp_region_ext_tail 6 (by kernel_rfl) (by kernel_rfl) fun K hK => ?_
  simp only [List.take_succ_cons, List.take_zero]
  repeat (go_big_quiet_step (fail))
  refine wpQuiet_nil (hK _ fun x => ?_)
  clear hK K
  simp only [List.drop_succ_cons, List.drop_zero]
  have Hm2 := Lib.hid (Hm.out.below x.le)
  have Hx := Lib.hid x.le
  refine wpList_put rfl (.tmp 10) (.tmp 11) (.tmp 12) rfl bm _ rfl Hm2.out (by have := Hc.out; omega) name rfl hn s s.size rfl ?_
  intro w2 hm2 hc2
  have Hm3 := Lib.hid hm2
  have Hc3 := Lib.hid ((Hch.out.mono fun k _ e => .inl e).trans ((Chg.of_below Hx.out).trans (hc2.mono fun k _ e => .inr e)) : Chg (fun k => k = bf ∨ k = bm) w w2)
  clear hm2 hc2
  go_wp2_with fail
  go_end0
  exact ⟨rfl, Hm3.out, Hc3.out⟩
set_option maxHeartbeats 1000000 in
theorem remove_fn (h : DiskIn w F bd bm cv kv d) {bp bn : Nat} {name : ByteArray} (hp : Blk w bp 24 #[.pointer (some ⟨bd, 0, none⟩)]) (hb : Blk w bn 9 #[.string name]) (hn : name.size ≤ maxLen) :
    Calls Try.prog 49 #[.pointer (some ⟨bp, 0, none⟩), .pointer (some ⟨bn, 0, none⟩)] w fun e w' => e = .returned (.tuple #[]) ∧ OwnM w' bm (del d.files name.data.toList) ∧ Chg (· = bm) w w' := by
  have d3 := h.blk.cell 3
  have d4 := hp.cell 0
  have d5 := hb.cell 0
  simp at d3 d4 d5
  have Hm := Lib.hid h.map
  clear h hp hb
  go_enter Try.func49, Try.ntmps49
  go_wp2_with fail
  refine wp_region_ext_tail 5 (by kernel_rfl) (by kernel_rfl) fun K hK => ?_
  simp only [List.take_succ_cons, List.take_zero]
  repeat (go_big_quiet_step (fail))
  refine wpQuiet_nil (hK _ fun x => ?_)
  clear hK K
  simp only [List.drop_succ_cons, List.drop_zero]
  have Hm2 := Lib.hid (Hm.out.below x.le)
  have Hx := Lib.hid x.le
  refine wpList_del rfl (.tmp 5) (.tmp 6) rfl bm _ rfl Hm2.out name rfl hn ?_
  intro w2 hm2 hc2
  have Hm3 := Lib.hid hm2
  have Hc3 := Lib.hid ((Chg.of_below Hx.out).trans hc2)
  clear hm2 hc2
  go_wp2_with fail
  go_end0
  exact ⟨rfl, Hm3.out, Hc3.out⟩
set_option maxHeartbeats 1000000 in
theorem rename_fn (h : DiskIn w F bd bm cv kv d) {bf bp bn bt : Nat} {s name to : ByteArray} {n : Nat} (hf : Blk w bf 72 #[.string s, .int .i64 n]) (hp : Blk w bp 24 #[.pointer (some ⟨bd, 0, none⟩)]) (hb : Blk w bn 9 #[.string name]) (ht : Blk w bt 9 #[.string to])
    (hn : name.size ≤ maxLen) (hn2 : to.size ≤ maxLen) :
    Calls Try.prog 45 #[.pointer (some ⟨bp, 0, none⟩), .pointer (some ⟨bn, 0, none⟩), .pointer (some ⟨bf, 0, none⟩), .pointer (some ⟨bt, 0, none⟩)] w fun e w' => e = .returned (.tuple #[]) ∧ OwnM w' bm (put (del d.files name.data.toList) to.data.toList ⟨s.data.toList, n⟩) ∧ Chg (· = bm) w w' := by
  have hc := h.ok.count
  have hdl := del_le d.files name.data.toList
  have d3 := h.blk.cell 3
  have d4 := hp.cell 0
  have d5 := hb.cell 0
  have d6 := ht.cell 0
  have d7 := hf.cell 0
  have d8 := hf.cell 1
  simp at d3 d4 d5 d6 d7 d8
  have Hm := Lib.hid h.map
  have Hc := Lib.hid (show (del d.files name.data.toList).length ≤ 100000 by omega)
  have Hd3 := Lib.hid h.blk
  have Hd4 := Lib.hid hp
  have Hd6 := Lib.hid ht
  have Hd7 := Lib.hid hf
  have Hn1 := Lib.hid (map_ne_blk h.map h.blk)
  have Hn2 := Lib.hid (map_ne_blk h.map hp)
  have Hn3 := Lib.hid (map_ne_blk h.map ht)
  have Hn4 := Lib.hid (map_ne_blk h.map hf)
  clear h hp hb hf ht hc hdl
  go_enter Try.func45, Try.ntmps45
  go_wp2_with fail
  refine wp_region_ext_tail 5 (by kernel_rfl) (by kernel_rfl) fun K hK => ?_
  simp only [List.take_succ_cons, List.take_zero]
  repeat (go_big_quiet_step (fail))
  refine wpQuiet_nil (hK _ fun x => ?_)
  clear hK K
  simp only [List.drop_succ_cons, List.drop_zero]
  have Hm2 := Lib.hid (Hm.out.below x.le)
  have Hx := Lib.hid x.le
  refine wpList_del rfl (.tmp 7) (.tmp 8) rfl bm _ rfl Hm2.out name rfl hn ?_
  intro w2 hm2 hc2
  have hall := (Chg.of_below Hx.out (S := (· = bm))).trans hc2
  have e3 := (Hd3.out.chg hall Hn1.out.symm).cell 3
  have e4 := (Hd4.out.chg hall Hn2.out.symm).cell 0
  have e6 := (Hd6.out.chg hall Hn3.out.symm).cell 0
  have e7 := (Hd7.out.chg hall Hn4.out.symm).cell 0
  have e8 := (Hd7.out.chg hall Hn4.out.symm).cell 1
  simp at e3 e4 e6 e7 e8
  have Hm3 := Lib.hid hm2
  have Hc3 := Lib.hid hall
  clear hm2 hc2 hall d3 d4 d5 d6 d7 d8
  go_wp2_with fail
  go_frame
  refine wp_region_ext_tail 6 (by kernel_rfl) (by kernel_rfl) fun K hK => ?_
  simp only [List.take_succ_cons, List.take_zero]
  repeat (go_big_quiet_step (fail))
  refine wpQuiet_nil (hK _ fun y => ?_)
  clear hK K
  simp only [List.drop_succ_cons, List.drop_zero]
  have Hm4 := Lib.hid (Hm3.out.below y.le)
  have Hy := Lib.hid y.le
  refine wpList_put rfl (.tmp 12) (.tmp 13) (.tmp 14) rfl bm _ rfl Hm4.out Hc.out to rfl hn2 s n rfl ?_
  intro w3 hm3 hc3
  have Hm5 := Lib.hid hm3
  have Hc5 := Lib.hid (Hc3.out.trans ((Chg.of_below Hy.out).trans hc3))
  clear hm3 hc3
  go_wp2_with fail
  go_end0
  exact ⟨rfl, Hm5.out, Hc5.out⟩
theorem append_fn (w : World) : Calls Try.prog 41 #[] w fun e w' => e = .returned (.tuple #[]) ∧ w = w' := by
  go_enter Try.func41, Try.ntmps41
  go_wp2_with fail
  go_end0
  exact ⟨rfl, rfl⟩
end
theorem enters_sync : Go.Proofs.Enters Try.prog 43 := enters_of Try.func43 (by kernel_rfl) rfl
theorem enters_remove : Go.Proofs.Enters Try.prog 49 := enters_of Try.func49 (by kernel_rfl) rfl
theorem enters_rename : Go.Proofs.Enters Try.prog 45 := enters_of Try.func45 (by kernel_rfl) rfl
theorem enters_append : Go.Proofs.Enters Try.prog 41 := enters_of Try.func41 (by kernel_rfl) rfl
end Go.Proofs.Ytnngdflamkdgaaa

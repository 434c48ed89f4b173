/- The disk's changes: Remove, Rename. -/
import Derived.Test.YtnngdflamkdgaaaDisk9
namespace Go.Proofs.Ytnngdflamkdgaaa
set_option maxRecDepth 100000
open Go.RowKit Go.Maps
open Dsk

section
variable {w : World} {F : Nat → Prop} {d : Dk}
set_option maxHeartbeats 1000000 in
theorem remove_at {v : Value} (h : DiskAt w F v d) (name : ByteArray) (hn : name.size ≤ maxLen) :
    Calls Try.prog 23 #[v, .string name] w fun e w' => ∃ r, e = .returned (.int .i64 r) ∧ Did w F v (d.remove name.data.toList) r w' := by
  have hat := h
  obtain ⟨bd, bm, cv, kv, rfl, h, hf⟩ := h
  have hbd := h.blk.lt
  obtain ⟨w0, hw0⟩ : ∃ w0, w0 = (w.alloc (.cells #[.pointer (some ⟨bd, 0, none⟩)] 24 (0, 0))).alloc (.cells #[.string name] 9 (0, 0)) := ⟨_, rfl⟩
  have hb0 : Below w.heap.size w w0 := by rw [hw0]; exact ((Below.refl _ _).alloc (Nat.le_refl _) _).alloc (by simp) _
  have hz0 : w0.heap.size = w.heap.size + 1 + 1 := by rw [hw0]; simp
  have hp0 : Blk w0 w.heap.size 24 #[.pointer (some ⟨bd, 0, none⟩)] := by rw [hw0]; exact (Blk.alloc_new w _ _).below ((Below.refl _ _).alloc (Nat.le_refl _) _)
  have hn0 : Blk w0 (w.heap.size + 1) 9 #[.string name] := by
    have := Blk.alloc_new (w.alloc (.cells #[.pointer (some ⟨bd, 0, none⟩)] 24 (0, 0))) 9 #[.string name]
    rw [hw0]; simpa using this
  have ho := open_in (h.below hb0) name hn
  have Hat := Lib.hid hat
  have Hb0 := Lib.hid hb0
  have HW := Lib.hid hw0
  have H := Lib.hid h
  have Hf := Lib.hid hf
  have Hp0 := Lib.hid hp0
  have Hn0 := Lib.hid hn0
  have p0 := hp0.cell 0
  simp at p0
  clear hat h hf hw0 hb0 hp0 hn0
  unfold Dk.opened at ho
  unfold Dk.remove
  cases hoff : d.off
  · simp only [hoff] at ho
    cases hg : get d.files name.data.toList with
    | none =>
      simp only [hg] at ho
      have Ho := Lib.hid ho
      clear hoff hg ho
      go_enter Try.func23, Try.ntmps23
      go_wp2_with fail
      rw [← HW.out]
      refine Ho.out.mono ?_
      rintro e w1 ⟨rfl, hb1⟩
      have Hb1 := Lib.hid hb1
      have hz1 := hb1.size
      clear hb1
      unfold flV
      go_wp2_with fail
      go_ret
      exact ⟨_, rfl, Did.same Hat.out (((Hb0.out.trans (Hb1.out.mono (by omega))).alloc (by omega) _)) _⟩
    | some f =>
      simp only [hg] at ho
      obtain ⟨s, n, hsn⟩ : ∃ (s : ByteArray) (n : Nat), f = ⟨s.data.toList, n⟩ := ⟨⟨f.data.toArray⟩, f.safe, rfl⟩
      subst hsn
      have Ho := Lib.hid ho
      have Hg := Lib.hid hg
      have Hoff := Lib.hid hoff
      have Hok := Lib.hid (show Ok (d.change (del d.files name.data.toList)).2 from by
        have := H.out.ok.remove name.data.toList
        unfold Dk.remove at this
        rw [hoff] at this
        simp only [hg] at this
        simpa using this)
      clear hoff hg ho
      go_enter Try.func23, Try.ntmps23
      go_wp2_with fail
      rw [← HW.out]
      refine Ho.out.mono ?_
      rintro e w1 ⟨rfl, hb1⟩
      have Hb1 := Lib.hid hb1
      have hz1 := hb1.size
      have hlt1 : w.heap.size < w1.heap.size := by omega
      have q0 := (Hp0.out.below hb1).cell 0
      simp at q0
      clear hb1 p0
      unfold flV
      go_wp2_with fail
      have hb2 : Below w.heap.size w (w1.alloc (.cells #[.string s, .int .i64 n] 72 (0, 0))) := (Hb0.out.trans (Hb1.out.mono (by omega))).alloc (by omega) _
      have hb12 : Below w0.heap.size w0 (w1.alloc (.cells #[.string s, .int .i64 n] 72 (0, 0))) := Hb1.out.alloc hz1 _
      have hbf := Blk.alloc_new w1 72 #[.string s, .int .i64 n]
      obtain ⟨w2, hw2⟩ : ∃ w2, w2 = w1.alloc (.cells #[.string s, .int .i64 n] 72 (0, 0)) := ⟨_, rfl⟩
      rw [← hw2] at hb2 hb12 hbf
      have hch := change_any (H.out.below hb2) Hf.out Hoff.out (caps := #[.pointer (some ⟨w.heap.size, 0, none⟩), .pointer (some ⟨w.heap.size + 1, 0, none⟩)]) (Post := Did w F (.pointer (some ⟨bd, 0, none⟩)) (d.change (del d.files name.data.toList))) enters_remove
        (fun n' h1 h2 w' h3 h4 => Did.crash h3 (((Chg.of_below hb2).trans (h4.mono fun _ _ e => .inl e)).old) h1 h2 _)
        (fun hpos w3 h3 h4 => by
          have hno : ∀ k, F k → k < w.heap.size := H.out.lt
          have e2 := (Hp0.out.below hb12).chg h4 (fun e => by have := hno _ e; omega)
          have e3 := (Hn0.out.below hb12).chg h4 (fun e => by have := hno _ e; omega)
          refine (remove_fn h3 e2 e3 hn).mono ?_
          rintro e w4 ⟨rfl, hm, hc⟩
          rw [ticked_files] at hm
          exact ⟨rfl, Did.made h3 Hf.out hpos hm (((Chg.of_below hb2).trans (h4.mono fun _ _ e => .inl e)).old) hc (fun k hk => .inl hk) hno Hok.out⟩)
      have Hch := Lib.hid hch
      have HW2 := Lib.hid hw2
      clear hb2 hb12 hbf hch hw2
      refine Calls.mono (by have := Hch.out; rw [HW2.out] at this; exact this) ?_
      rintro e w5 ⟨r, rfl, hdid⟩
      have Hdid := Lib.hid hdid
      clear hdid
      go_wp2_with fail
      go_ret
      simp only
      exact ⟨r, rfl, Hdid.out⟩
  · simp only [hoff] at ho
    have Ho := Lib.hid ho
    clear hoff ho
    go_enter Try.func23, Try.ntmps23
    go_wp2_with fail
    rw [← HW.out]
    refine Ho.out.mono ?_
    rintro e w1 ⟨rfl, hb1⟩
    have Hb1 := Lib.hid hb1
    have hz1 := hb1.size
    clear hb1
    unfold flV
    go_wp2_with fail
    go_ret
    exact ⟨_, rfl, Did.same Hat.out (((Hb0.out.trans (Hb1.out.mono (by omega))).alloc (by omega) _)) _⟩
set_option maxHeartbeats 1000000 in
theorem rename_at {v : Value} (h : DiskAt w F v d) (name to : ByteArray) (hn : name.size ≤ maxLen) (hn2 : to.size ≤ maxLen) :
    Calls Try.prog 14 #[v, .string name, .string to] w fun e w' => ∃ r, e = .returned (.int .i64 r) ∧ Did w F v (d.rename name.data.toList to.data.toList) r w' := by
  have hat := h
  obtain ⟨bd, bm, cv, kv, rfl, h, hf⟩ := h
  have hbd := h.blk.lt
  obtain ⟨w0, hw0⟩ : ∃ w0, w0 = ((w.alloc (.cells #[.pointer (some ⟨bd, 0, none⟩)] 24 (0, 0))).alloc (.cells #[.string name] 9 (0, 0))).alloc (.cells #[.string to] 9 (0, 0)) := ⟨_, rfl⟩
  have hb0 : Below w.heap.size w w0 := by rw [hw0]; exact (((Below.refl _ _).alloc (Nat.le_refl _) _).alloc (by simp) _).alloc (by simp; omega) _
  have hz0 : w0.heap.size = w.heap.size + 1 + 1 + 1 := by rw [hw0]; simp
  have hp0 : Blk w0 w.heap.size 24 #[.pointer (some ⟨bd, 0, none⟩)] := by rw [hw0]; exact (Blk.alloc_new w _ _).below (((Below.refl _ _).alloc (Nat.le_refl _) _).alloc (by simp) _)
  have hn0 : Blk w0 (w.heap.size + 1) 9 #[.string name] := by
    have := Blk.alloc_new (w.alloc (.cells #[.pointer (some ⟨bd, 0, none⟩)] 24 (0, 0))) 9 #[.string name]
    have h2 := this.below ((Below.refl _ _).alloc (Nat.le_refl _) (.cells #[.string to] 9 (0, 0)))
    rw [hw0]; simpa using h2
  have ht0 : Blk w0 (w.heap.size + 1 + 1) 9 #[.string to] := by
    have := Blk.alloc_new ((w.alloc (.cells #[.pointer (some ⟨bd, 0, none⟩)] 24 (0, 0))).alloc (.cells #[.string name] 9 (0, 0))) 9 #[.string to]
    rw [hw0]; simpa using this
  have Ht0 := Lib.hid ht0
  have ho := open_in (h.below hb0) name hn
  have Hat := Lib.hid hat
  have Hb0 := Lib.hid hb0
  have HW := Lib.hid hw0
  have H := Lib.hid h
  have Hf := Lib.hid hf
  have Hp0 := Lib.hid hp0
  have Hn0 := Lib.hid hn0
  have p0 := hp0.cell 0
  simp at p0
  clear hat h hf hw0 hb0 hp0 hn0 ht0
  unfold Dk.opened at ho
  unfold Dk.rename
  cases hoff : d.off
  · simp only [hoff] at ho
    cases hg : get d.files name.data.toList with
    | none =>
      simp only [hg] at ho
      have Ho := Lib.hid ho
      clear hoff hg ho
      go_enter Try.func14, Try.ntmps14
      go_wp2_with fail
      rw [← HW.out]
      refine Ho.out.mono ?_
      rintro e w1 ⟨rfl, hb1⟩
      have Hb1 := Lib.hid hb1
      have hz1 := hb1.size
      clear hb1
      unfold flV
      go_wp2_with fail
      go_ret
      exact ⟨_, rfl, Did.same Hat.out (((Hb0.out.trans (Hb1.out.mono (by omega))).alloc (by omega) _)) _⟩
    | some f =>
      simp only [hg] at ho
      obtain ⟨s, n, hsn⟩ : ∃ (s : ByteArray) (n : Nat), f = ⟨s.data.toList, n⟩ := ⟨⟨f.data.toArray⟩, f.safe, rfl⟩
      subst hsn
      by_cases hnm : Named to.data.toList
      · simp only [hnm, not_true_eq_false, if_false]
        have Ho := Lib.hid ho
        have Hg := Lib.hid hg
        have Hoff := Lib.hid hoff
        have Hok := Lib.hid (show Ok (d.change (put (del d.files name.data.toList) to.data.toList ⟨s.data.toList, n⟩)).2 from by
          have := H.out.ok.rename name.data.toList to.data.toList
          unfold Dk.rename at this
          rw [hoff] at this
          simp only [hg] at this
          simpa [hnm] using this)
        have Hnm := Lib.hid (named_any to · hn2 (b := true) (by simp [hnm]))
        clear hoff hg ho hnm
        have hlt2 : w.heap.size + 1 + 1 < w0.heap.size := by omega
        go_enter Try.func14, Try.ntmps14
        go_wp2_with fail
        rw [← HW.out]
        refine Ho.out.mono ?_
        rintro e w1 ⟨rfl, hb1⟩
        have Hb1 := Lib.hid hb1
        have hz1 := hb1.size
        have hlt1 : w.heap.size < w1.heap.size := by omega
        have q0 := (Hp0.out.below hb1).cell 0
        simp at q0
        have q1 := (Ht0.out.below hb1).cell 0
        simp at q1
        have hlt3 : w.heap.size + 1 + 1 < w1.heap.size := by omega
        clear hb1 p0
        unfold flV
        go_wp2_with (go_at_call 39; refine (Hnm.out _).mono ?_; rintro e w' ⟨rfl, rfl⟩)
        have hb2 : Below w.heap.size w (w1.alloc (.cells #[.string s, .int .i64 n] 72 (0, 0))) := (Hb0.out.trans (Hb1.out.mono (by omega))).alloc (by omega) _
        have hb12 : Below w0.heap.size w0 (w1.alloc (.cells #[.string s, .int .i64 n] 72 (0, 0))) := Hb1.out.alloc hz1 _
        have hbf := Blk.alloc_new w1 72 #[.string s, .int .i64 n]
        obtain ⟨w2, hw2⟩ : ∃ w2, w2 = w1.alloc (.cells #[.string s, .int .i64 n] 72 (0, 0)) := ⟨_, rfl⟩
        rw [← hw2] at hb2 hb12 hbf
        have hch := change_any (H.out.below hb2) Hf.out Hoff.out (caps := #[.pointer (some ⟨w.heap.size, 0, none⟩), .pointer (some ⟨w.heap.size + 1, 0, none⟩), .pointer (some ⟨w1.heap.size, 0, none⟩), .pointer (some ⟨w.heap.size + 1 + 1, 0, none⟩)]) (Post := Did w F (.pointer (some ⟨bd, 0, none⟩)) (d.change (put (del d.files name.data.toList) to.data.toList ⟨s.data.toList, n⟩))) enters_rename
          (fun n' h1 h2 w' h3 h4 => Did.crash h3 (((Chg.of_below hb2).trans (h4.mono fun _ _ e => .inl e)).old) h1 h2 _)
          (fun hpos w3 h3 h4 => by
            have hno : ∀ k, F k → k < w.heap.size := H.out.lt
            have e1 := hbf.chg h4 (fun e => by have := hno _ e; omega)
            have e2 := (Hp0.out.below hb12).chg h4 (fun e => by have := hno _ e; omega)
            have e3 := (Hn0.out.below hb12).chg h4 (fun e => by have := hno _ e; omega)
            have e4 := (Ht0.out.below hb12).chg h4 (fun e => by have := hno _ e; omega)
            refine (rename_fn h3 e1 e2 e3 e4 hn hn2).mono ?_
            rintro e w4 ⟨rfl, hm, hc⟩
            rw [ticked_files] at hm
            exact ⟨rfl, Did.made h3 Hf.out hpos hm (((Chg.of_below hb2).trans (h4.mono fun _ _ e => .inl e)).old) hc (fun k hk => .inl hk) hno Hok.out⟩)
        have Hch := Lib.hid hch
        have HW2 := Lib.hid hw2
        clear hb2 hb12 hbf hch hw2
        refine Calls.mono (by have := Hch.out; rw [HW2.out] at this; exact this) ?_
        rintro e w5 ⟨r, rfl, hdid⟩
        have Hdid := Lib.hid hdid
        clear hdid
        go_wp2_with fail
        go_ret
        exact ⟨r, rfl, Hdid.out⟩
      · simp only [hnm, not_false_eq_true, if_true]
        have Ho := Lib.hid ho
        have Hnm := Lib.hid (named_any to · hn2 (b := false) (by simp [hnm]))
        clear hoff hg ho hnm
        have hlt2 : w.heap.size + 1 + 1 < w0.heap.size := by omega
        go_enter Try.func14, Try.ntmps14
        go_wp2_with fail
        rw [← HW.out]
        refine Ho.out.mono ?_
        rintro e w1 ⟨rfl, hb1⟩
        have hz1 := hb1.size
        have q1 := (Ht0.out.below hb1).cell 0
        simp at q1
        have Hb1 := Lib.hid hb1
        have hlt3 : w.heap.size + 1 + 1 < w1.heap.size := by omega
        clear hb1
        unfold flV
        go_wp2_with (go_at_call 39; refine (Hnm.out _).mono ?_; rintro e w' ⟨rfl, rfl⟩)
        go_ret
        exact ⟨_, rfl, Did.same Hat.out (((Hb0.out.trans (Hb1.out.mono (by omega))).alloc (by omega) _)) _⟩
  · simp only [hoff] at ho
    have Ho := Lib.hid ho
    clear hoff ho
    go_enter Try.func14, Try.ntmps14
    go_wp2_with fail
    rw [← HW.out]
    refine Ho.out.mono ?_
    rintro e w1 ⟨rfl, hb1⟩
    have Hb1 := Lib.hid hb1
    have hz1 := hb1.size
    clear hb1
    unfold flV
    go_wp2_with fail
    go_ret
    exact ⟨_, rfl, Did.same Hat.out (((Hb0.out.trans (Hb1.out.mono (by omega))).alloc (by omega) _)) _⟩
end
end Go.Proofs.Ytnngdflamkdgaaa

/- The disk's changes: Sync, Remove, Rename. -/
import Derived.Test.YtnngdflamkdgaaaDisk8
namespace Go.Proofs.Ytnngdflamkdgaaa
set_option maxRecDepth 100000
open Go.RowKit Go.Maps
open Dsk

theorem change_crash {d : Dk} {n : Int} (h : d.fail = some n) (hn : n ≤ 0) (m : Files) : d.change m = (51, d.crashed d.keep) := by unfold Dk.change; rw [h]; simp [hn]
theorem change_made {d : Dk} (h : ∀ n, d.fail = some n → 0 < n) (m : Files) : d.change m = (0, { Dk.ticked d with files := m }) := by
  obtain ⟨a1, a2, a3, a4, fl, a5⟩ := d
  unfold Dk.change Dk.ticked
  cases hf : fl with
  | none => rfl
  | some n =>
    have := h n hf
    simp only
    rw [if_neg (by omega)]
theorem ticked_files (d : Dk) : (Dk.ticked d).files = d.files := by unfold Dk.ticked; split <;> rfl
theorem fok_ticked {d : Dk} (hf : FOk d) (h : ∀ n, d.fail = some n → 0 < n) : FOk (Dk.ticked d) := by
  intro k hk
  unfold Dk.ticked at hk
  split at hk
  · exact hf k hk
  · rename_i n hn
    cases hk
    have := hf n hn; have := h n hn; omega
theorem fok_crashed (d : Dk) (keep : List Int) : FOk (d.crashed keep) := fun _ e => by cases e
section
variable {w : World} {F : Nat → Prop} {bd bm : Nat} {cv kv : Value} {d : Dk}
theorem DiskIn.made (h : DiskIn w F bd bm cv kv d) {w' : World} {m : Files} {T : Nat → Prop} (hm : OwnM w' bm m) (hc : Chg T w w') (hT : ∀ k, T k → k = bm ∨ ¬ F k) (hok : Ok { d with files := m }) : DiskIn w' F bd bm cv kv { d with files := m } := by
  have hbm := map_ne_blk h.map h.blk
  have hno : ∀ k, F k → k ≠ bm → ¬ T k := fun k hk hne ht => (hT k ht).elim hne (fun x => x hk)
  refine ⟨h.blk.chg hc (hno _ h.fd hbm.symm), hm, ?_, h.row.chg hc (fun k hk => hno k (h.fk k hk).1 fun e => map_ne_row h.map h.row (e ▸ hk)), h.fd, h.fm, h.fk, hok, fun k hk => Nat.lt_of_lt_of_le (h.lt k hk) hc.size⟩
  have := h.fn
  unfold CrashFn at *
  split
  · rename_i e; rw [e] at this; exact this
  · rename_i n e
    rw [e] at this
    obtain ⟨bc, e, hb, hF⟩ := this
    exact ⟨bc, e, hb.chg hc (hno bc hF (map_ne_blk h.map hb).symm), hF⟩
/-- What a change leaves. -/
def Did (w : World) (F : Nat → Prop) (v : Value) (x : Int × Dk) (r : Int) (w' : World) : Prop := r = x.1 ∧ DiskAt w' F v x.2 ∧ Chg F w w'
theorem Did.crash (hd : DiskIn w F bd bm .nilFunc kv (d.crashed d.keep)) {w0 : World} (hc : Chg F w0 w) {n : Int} (h : d.fail = some n) (hn : n ≤ 0) (m : Files) : Did w0 F (.pointer (some ⟨bd, 0, none⟩)) (d.change m) 51 w := by
  rw [change_crash h hn]
  exact ⟨rfl, ⟨bd, bm, _, _, rfl, hd, fok_crashed _ _⟩, hc⟩
theorem Did.made (hd : DiskIn w F bd bm cv kv (Dk.ticked d)) {w0 w' : World} {T : Nat → Prop} {m : Files} (hf : FOk d) (hn : ∀ n, d.fail = some n → 0 < n) (hm : OwnM w' bm m) (hc0 : Chg F w0 w) (hc : Chg T w w') (hT : ∀ k, T k → k = bm ∨ w0.heap.size ≤ k) (hFlt : ∀ k, F k → k < w0.heap.size)
    (hok : Ok (d.change m).2) : Did w0 F (.pointer (some ⟨bd, 0, none⟩)) (d.change m) 0 w' := by
  rw [change_made hn] at hok ⊢
  refine ⟨rfl, ⟨bd, bm, _, _, rfl, hd.made hm hc (fun k hk => (hT k hk).imp id fun h1 h2 => absurd (hFlt k h2) (by omega)) hok, FOk.same (fok_ticked hf hn) rfl⟩, Chg.old ?_⟩
  exact (hc0.mono fun _ _ h => .inl h).trans (hc.mono fun k _ h => (hT k h).elim (fun e => .inl (e ▸ hd.fm)) .inr)
theorem Did.same {v : Value} {w' : World} (h : DiskAt w F v d) (hb : Below w.heap.size w w') (r : Int) : Did w F v (r, d) r w' := ⟨rfl, h.below hb, Chg.of_below hb⟩

set_option maxHeartbeats 1000000 in
theorem sync_at {v : Value} (h : DiskAt w F v d) (name : ByteArray) (hn : name.size ≤ maxLen) :
    Calls Try.prog 12 #[v, .string name] w fun e w' => ∃ r, e = .returned (.int .i64 r) ∧ Did w F v (d.sync name.data.toList) r w' := by
  have hat := h
  obtain ⟨bd, bm, cv, kv, rfl, h, hf⟩ := h
  have hbd := h.blk.lt
  obtain ⟨w0, hw0⟩ : ∃ w0, w0 = (w.alloc (.cells #[.pointer (some ⟨bd, 0, none⟩)] 24 (0, 0))).alloc (.cells #[.string name] 9 (0, 0)) := ⟨_, rfl⟩
  have hb0 : Below w.heap.size w w0 := by rw [hw0]; exact ((Below.refl _ _).alloc (Nat.le_refl _) _).alloc (by simp) _
  have hz0 : w0.heap.size = w.heap.size + 1 + 1 := by rw [hw0]; simp
  have hp0 : Blk w0 w.heap.size 24 #[.pointer (some ⟨bd, 0, none⟩)] := by rw [hw0]; exact (Blk.alloc_new w _ _).below ((Below.refl _ _).alloc (Nat.le_refl _) _)
  have hn0 : Blk w0 (w.heap.size + 1) 9 #[.string name] := by
    have := Blk.alloc_new (w.alloc (.cells #[.pointer (some ⟨bd, 0, none⟩)] 24 (0, 0))) 9 #[.string name]
    rw [hw0]; simpa using this
  have ho := open_in (h.below hb0) name hn
  have Hat := Lib.hid hat
  have Hb0 := Lib.hid hb0
  have HW := Lib.hid hw0
  have H := Lib.hid h
  have Hf := Lib.hid hf
  have Hp0 := Lib.hid hp0
  have Hn0 := Lib.hid hn0
  have p0 := hp0.cell 0
  simp at p0
  clear hat h hf hw0 hb0 hp0 hn0
  unfold Dk.opened at ho
  unfold Dk.sync
  cases hoff : d.off
  · simp only [hoff] at ho
    cases hg : get d.files name.data.toList with
    | none =>
      simp only [hg] at ho
      have Ho := Lib.hid ho
      clear hoff hg ho
      go_enter Try.func12, Try.ntmps12
      go_wp2_with fail
      rw [← HW.out]
      refine Ho.out.mono ?_
      rintro e w1 ⟨rfl, hb1⟩
      have Hb1 := Lib.hid hb1
      have hz1 := hb1.size
      clear hb1
      unfold flV
      go_wp2_with fail
      go_ret
      exact ⟨_, rfl, Did.same Hat.out (((Hb0.out.trans (Hb1.out.mono (by omega))).alloc (by omega) _)) _⟩
    | some f =>
      simp only [hg] at ho
      obtain ⟨s, n, hsn⟩ : ∃ (s : ByteArray) (n : Nat), f = ⟨s.data.toList, n⟩ := ⟨⟨f.data.toArray⟩, f.safe, rfl⟩
      subst hsn
      have Ho := Lib.hid ho
      have Hg := Lib.hid hg
      have Hoff := Lib.hid hoff
      have Hok := Lib.hid (show Ok (d.change (put d.files name.data.toList ⟨s.data.toList, s.size⟩)).2 from by
        have := H.out.ok.sync name.data.toList
        unfold Dk.sync at this
        rw [hoff] at this
        simp only [hg] at this
        simpa using this)
      clear hoff hg ho
      go_enter Try.func12, Try.ntmps12
      go_wp2_with fail
      rw [← HW.out]
      refine Ho.out.mono ?_
      rintro e w1 ⟨rfl, hb1⟩
      have Hb1 := Lib.hid hb1
      have hz1 := hb1.size
      have hlt1 : w.heap.size < w1.heap.size := by omega
      have q0 := (Hp0.out.below hb1).cell 0
      simp at q0
      clear hb1 p0
      unfold flV
      go_wp2_with fail
      have hb2 : Below w.heap.size w (w1.alloc (.cells #[.string s, .int .i64 n] 72 (0, 0))) := (Hb0.out.trans (Hb1.out.mono (by omega))).alloc (by omega) _
      have hb12 : Below w0.heap.size w0 (w1.alloc (.cells #[.string s, .int .i64 n] 72 (0, 0))) := Hb1.out.alloc hz1 _
      have hbf := Blk.alloc_new w1 72 #[.string s, .int .i64 n]
      obtain ⟨w2, hw2⟩ : ∃ w2, w2 = w1.alloc (.cells #[.string s, .int .i64 n] 72 (0, 0)) := ⟨_, rfl⟩
      rw [← hw2] at hb2 hb12 hbf
      have hch := change_any (H.out.below hb2) Hf.out Hoff.out (caps := #[.pointer (some ⟨w1.heap.size, 0, none⟩), .pointer (some ⟨w.heap.size, 0, none⟩), .pointer (some ⟨w.heap.size + 1, 0, none⟩)]) (Post := Did w F (.pointer (some ⟨bd, 0, none⟩)) (d.change (put d.files name.data.toList ⟨s.data.toList, s.size⟩))) enters_sync
        (fun n' h1 h2 w' h3 h4 => Did.crash h3 (((Chg.of_below hb2).trans (h4.mono fun _ _ e => .inl e)).old) h1 h2 _)
        (fun hpos w3 h3 h4 => by
          have hno : ∀ k, F k → k < w.heap.size := H.out.lt
          have e1 := hbf.chg h4 (fun e => by have := hno _ e; omega)
          have e2 := (Hp0.out.below hb12).chg h4 (fun e => by have := hno _ e; omega)
          have e3 := (Hn0.out.below hb12).chg h4 (fun e => by have := hno _ e; omega)
          refine (sync_fn h3 e1 e2 e3 hn).mono ?_
          rintro e w4 ⟨rfl, hm, hc⟩
          rw [ticked_files] at hm
          exact ⟨rfl, Did.made h3 Hf.out hpos hm (((Chg.of_below hb2).trans (h4.mono fun _ _ e => .inl e)).old) hc (fun k hk => hk.elim (fun e => .inr (by omega)) .inl) hno Hok.out⟩)
      have Hch := Lib.hid hch
      have HW2 := Lib.hid hw2
      clear hb2 hb12 hbf hch hw2
      refine Calls.mono (by have := Hch.out; rw [HW2.out] at this; exact this) ?_
      rintro e w5 ⟨r, rfl, hdid⟩
      have Hdid := Lib.hid hdid
      clear hdid
      go_wp2_with fail
      go_ret
      simp only
      exact ⟨r, rfl, Hdid.out⟩
  · simp only [hoff] at ho
    have Ho := Lib.hid ho
    clear hoff ho
    go_enter Try.func12, Try.ntmps12
    go_wp2_with fail
    rw [← HW.out]
    refine Ho.out.mono ?_
    rintro e w1 ⟨rfl, hb1⟩
    have Hb1 := Lib.hid hb1
    have hz1 := hb1.size
    clear hb1
    unfold flV
    go_wp2_with fail
    go_ret
    exact ⟨_, rfl, Did.same Hat.out (((Hb0.out.trans (Hb1.out.mono (by omega))).alloc (by omega) _)) _⟩
end
end Go.Proofs.Ytnngdflamkdgaaa

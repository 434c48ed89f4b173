/- The disk's crash. -/
import Derived.Test.YtnngdflamkdgaaaDisk4
namespace Go.Proofs.Ytnngdflamkdgaaa
set_option maxRecDepth 100000
open Go.RowKit Go.Maps
open Dsk

theorem CrashFn.chg2 {w w' : World} {F : Nat → Prop} {cv : Value} {fail : Option Int} {bm : Nat} {m : Files} (h : CrashFn w F cv fail) (x : Chg (· = bm) w w') (hm : OwnM w bm m) : CrashFn w' F cv fail := by
  unfold CrashFn at *
  split
  · exact h
  · obtain ⟨bc, e, hb, hF⟩ := h
    exact ⟨bc, e, hb.chg x (map_ne_blk hm hb).symm, hF⟩
section
variable {w : World} {F : Nat → Prop} {bd bm : Nat} {cv kv : Value} {d : Dk}
theorem func_neq_nil (w : World) : (binOp .neq 34 .nilFunc .nilFunc).run Try.prog w = .ok (.bool false) w := by kernel_rfl
theorem func_neq_some (w : World) (bc : Nat) : (binOp .neq 34 (.func (.func 44) #[] #[.pointer (some ⟨bc, 0, none⟩)]) .nilFunc).run Try.prog w = .ok (.bool true) w := by kernel_rfl
theorem DiskIn.setFail (h : DiskIn w F bd bm cv kv d) {bc : Nat} {n : Int} (hb : Blk w bc 3 #[.int .i64 n]) (hF : F bc) (hcv : cv = .func (.func 44) #[] #[.pointer (some ⟨bc, 0, none⟩)]) (m : Int) :
    DiskIn (w.setCell ⟨bc, 0, none⟩ (.int .i64 m)) F bd bm cv kv { d with fail := some m } ∧ Chg F w (w.setCell ⟨bc, 0, none⟩ (.int .i64 m)) := by
  have hc : Chg (· = bc) w (w.setCell ⟨bc, 0, none⟩ (.int .i64 m)) := (Chg.refl (· = bc) w).setCell (p := ⟨bc, 0, none⟩) (fun _ => rfl) (.int .i64 m)
  have h1 : bd ≠ bc := fun e => by
    have a := h.blk; subst e; unfold Blk at a hb; rw [hb] at a; simp at a
  have h2 : bm ≠ bc := map_ne_blk h.map hb
  refine ⟨⟨h.blk.chg hc h1, h.map.chg hc h2, ⟨bc, hcv, hb.set 0 _, hF⟩, h.row.chg hc fun k hk e => ?_, h.fd, h.fm, h.fk, ⟨h.ok.room1, h.ok.room2, h.ok.rising, h.ok.named, h.ok.safe, h.ok.count, h.ok.fits, h.ok.starts, h.ok.keep⟩, fun k hk => Nat.lt_of_lt_of_le (h.lt k hk) hc.size⟩, hc.mono fun k _ e => e ▸ hF⟩
  subst e
  exact (h.fk k hk).2.2 hcv
/-- 'crashes' where no crash is set. -/
theorem crashes_none (h : DiskIn w F bd bm cv kv d) (hf : d.fail = none) : Calls Try.prog 62 #[.pointer (some ⟨bd, 0, none⟩)] w fun e w' => e = .returned (.bool false) ∧ w = w' := by
  have c4 := h.blk.cell 4
  have hfn := h.fn
  rw [hf] at hfn
  obtain rfl : cv = .nilFunc := hfn
  simp at c4
  clear h hf
  have hq := func_neq_nil w
  go_enter Try.func62, Try.ntmps62
  go_wp2_with fail
  go_ret
  exact ⟨rfl, rfl⟩
/-- 'crashes' where one is set. -/
theorem crashes_some (h : DiskIn w F bd bm cv kv d) {n : Int} (hf : d.fail = some n) (hn : 0 ≤ n ∧ n ≤ 9223372036854775807) :
    Calls Try.prog 62 #[.pointer (some ⟨bd, 0, none⟩)] w fun e w' => e = .returned (.bool (decide (n - 1 < 0))) ∧ DiskIn w' F bd bm cv kv { d with fail := some (n - 1) } ∧ Chg F w w' := by
  have c4 := h.blk.cell 4
  have hfn := h.fn
  rw [hf] at hfn
  obtain ⟨bc, hcv, hb, hF⟩ := hfn
  have hset := h.setFail hb hF hcv (n - 1)
  subst hcv
  simp at c4
  have c0 := hb.cell 0
  have f0 := hb.free 0
  simp at c0
  have c1 := (hb.set 0 (.int .i64 (n - 1))).cell 0
  simp at c1
  have Hset := Lib.hid hset
  clear h hf hset
  have hq := func_neq_some w bc
  obtain ⟨hn1, hn2⟩ := hn
  go_enter Try.func62, Try.ntmps62
  go_wp2
  go_ret
  exact ⟨rfl, Hset.out⟩

/-- A slice of numbers that can be read, in no block of S. -/
def KeepR (w : World) (S : Nat → Prop) (v : Value) (l : List Int) : Prop :=
  ∃ x c, v = .slice x l.length c ∧ (x = none → c = 0) ∧ ∀ (j : Nat) (hj : j < l.length), ∃ b off, x = some ⟨b, off, none⟩ ∧ b < w.heap.size ∧ ¬ S b ∧ w.cell? ⟨b, off + j, none⟩ = some (.int .i64 l[j])
theorem KeepR.chg {w w' : World} {S T : Nat → Prop} {v : Value} {l : List Int} (h : KeepR w S v l) (x : Chg T w w') (hT : ∀ k, T k → S k) : KeepR w' S v l := by
  obtain ⟨a, c, rfl, ha, h⟩ := h
  refine ⟨a, c, rfl, ha, fun j hj => ?_⟩
  obtain ⟨b, off, e, hb, hs, hc⟩ := h j hj
  exact ⟨b, off, e, Nat.lt_of_lt_of_le hb x.size, hs, (x.cell (p := ⟨b, off + j, none⟩) hb fun ht => hs (hT _ ht)).trans hc⟩
theorem KeepR.mono {w : World} {S T : Nat → Prop} {v : Value} {l : List Int} (h : KeepR w S v l) (hT : ∀ k, T k → S k) : KeepR w T v l := by
  obtain ⟨a, c, rfl, ha, h⟩ := h
  refine ⟨a, c, rfl, ha, fun j hj => ?_⟩
  obtain ⟨b, off, e, hb, hs, hc⟩ := h j hj
  exact ⟨b, off, e, hb, fun ht => hs (hT _ ht), hc⟩
theorem crash_off (h : DiskIn w F bd bm cv kv d) (hoff : d.off = true) (v : Value) : Calls Try.prog 35 #[.pointer (some ⟨bd, 0, none⟩), v] w fun e w' => e = .returned (.int .i64 51) ∧ w = w' := by
  have hr := runs_in h
  rw [hoff] at hr
  clear h hoff
  go_enter Try.func35, Try.ntmps35
  go_wp2_with (go_at_call 38; refine hr.mono ?_; rintro e w' ⟨rfl, rfl⟩)
  go_ret
  exact ⟨rfl, rfl⟩
theorem DiskIn.stop (h : DiskIn w F bd bm cv kv d) {w' : World} (hb : Blk w' bd 59 #[.int .i64 d.room, .int .i64 d.starts, .bool true, .map (some bm), .nilFunc, kv]) (hc : Chg (· = bd) w w') :
    DiskIn w' F bd bm .nilFunc kv { d with off := true, fail := none } :=
  ⟨hb, h.map.chg hc (map_ne_blk h.map h.blk), rfl, h.row.chg hc (fun k hk => (h.fk k hk).2.1), h.fd, h.fm, fun k hk => ⟨(h.fk k hk).1, (h.fk k hk).2.1, fun e => by cases e⟩,
   ⟨h.ok.room1, h.ok.room2, h.ok.rising, h.ok.named, h.ok.safe, h.ok.count, h.ok.fits, h.ok.starts, h.ok.keep⟩, fun k hk => Nat.lt_of_lt_of_le (h.lt k hk) hc.size⟩
theorem DiskIn.files (h : DiskIn w F bd bm cv kv d) {w' : World} {m : Files} (hm : OwnM w' bm m) (hc : Chg (· = bm) w w') (hok : Ok { d with files := m }) : DiskIn w' F bd bm cv kv { d with files := m } :=
  ⟨h.blk.chg hc (map_ne_blk h.map h.blk).symm, hm, h.fn.chg2 hc h.map, h.row.chg hc (fun _ hk e => map_ne_row h.map h.row (e ▸ hk)), h.fd, h.fm, h.fk, hok, fun k hk => Nat.lt_of_lt_of_le (h.lt k hk) hc.size⟩
end
end Go.Proofs.Ytnngdflamkdgaaa

/- The reference's disk: Sync, Remove, Start, New, Fail. -/
import Derived.Test.YtnngdflamkdgaaaRefDisk8
namespace Go.Proofs.Ytnngdflamkdgaaa
set_option maxRecDepth 100000
open Go.RowKit Go.Maps
open Dsk

theorem ticked_ok {d : Dk} (h : Ok d) : Ok (Dk.ticked d) := by
  unfold Dk.ticked
  split
  · exact h
  · exact ⟨h.room1, h.room2, h.rising, h.named, h.safe, h.count, h.fits, h.starts, h.keep⟩
section
variable {w : World} {F : Nat → Prop} {br : Nat} {vl vk : Value} {st : Bool} {nf : Int} {d : Dk}
theorem RefAt.open_ {b : Nat} (h : RefAt w F (.pointer (some ⟨b, 0, none⟩)) d) : ∃ vl vk st nf, RefIn w F b vl vk st nf d ∧ st = d.fail.isSome ∧ (∀ n, d.fail = some n → nf = n) ∧ FOk d := by
  obtain ⟨br, vl, vk, st, nf, e, h⟩ := h
  injection e with e
  injection e with e
  injection e with e
  subst e
  exact ⟨vl, vk, st, nf, h⟩
theorem RefAt.ptr {v : Value} (h : RefAt w F v d) : ∃ br, v = .pointer (some ⟨br, 0, none⟩) := by obtain ⟨br, _, _, _, _, e, _⟩ := h; exact ⟨br, e⟩
theorem RefIn.atm (h : RefIn w F br vl vk st nf d) {m : Files} (e : d.files = m) {i : Nat} (hi : i < m.length) : ∃ b c, vl = .slice (some ⟨b, 0, none⟩) m.length c ∧ b < w.heap.size ∧ F b ∧ b ≠ br ∧ (∀ j, w.frozen? ⟨b, j, none⟩ = false) ∧
    w.cell? ⟨b, i * 3, none⟩ = some (.string ⟨m[i].1.toArray⟩) ∧ w.cell? ⟨b, i * 3 + 1, none⟩ = some (.string ⟨m[i].2.data.toArray⟩) ∧ w.cell? ⟨b, i * 3 + 2, none⟩ = some (.int .i64 m[i].2.safe) ∧ OwnF w 0 vl m := by
  subst e
  obtain ⟨b, c, h1, h2, h3, h4, h5, h6, h7, h8⟩ := h.at_ hi
  exact ⟨b, c, h1, h2, h3, h4, h5, h6, h7, h8, h.row⟩
theorem RefIn.cutm (h : RefIn w F br vl vk st nf d) {m : Files} (e : d.files = m) {i : Nat} (hi : i < m.length) {name : Str} (he : m[i].1 = name) : Calls Try.prog 69 #[.pointer (some ⟨br, 0, none⟩), .int .i64 i] w fun e w' => e = .returned (.tuple #[]) ∧ ∃ vl', OwnF w' w.heap.size vl' (del m name) ∧
      Blk w' br 83 #[.int .i64 d.room, .int .i64 d.starts, .bool d.off, .bool st, vl', .int .i64 nf, vk] ∧ Chg (· = br) w w' := by
  subst e
  rw [← cut_del h.ok.rising hi he]
  exact refCut_in h i hi
theorem get_at {m : Files} {name : Str} {i : Nat} (hr : Rising m) (hi : i < m.length) (e : m[i].1 = name) : get m name = some m[i].2 := place_get hr hi e
set_option maxHeartbeats 2000000 in
theorem refSync_at {v : Value} (h : RefAt w F v d) (name : ByteArray) :
    Calls Try.prog 50 #[v, .string name] w fun e w' => ∃ r, e = .returned (.int .i64 r) ∧ DidR w F v (d.sync name.data.toList) r w' := by
  have Hat := Lib.hid h
  obtain ⟨br, rfl⟩ := h.ptr
  obtain ⟨vl, vk, st, nf, hi, hrest⟩ := h.open_
  have Ha := Lib.hid (refAsks_in hi name)
  clear hi hrest h
  go_enter Try.func50, Try.ntmps50
  go_wp2_with fail
  refine Ha.out.mono ?_
  rintro e w1 ⟨r, c, rfl, rfl, hh⟩
  clear Ha
  rcases hh with ⟨ho, rfl⟩ | ⟨ho, rfl, hg⟩ | ⟨ho, rfl, i, hi, rfl, he⟩
  · have Ho := Lib.hid ho
    clear ho
    go_wp2_with fail
    go_ret
    refine ⟨51, rfl, ?_⟩
    unfold Dk.sync
    rw [if_pos Ho.out]
    exact DidR.same Hat.out (Below.refl _ _) _
  · have Ho := Lib.hid ho
    have Hg := Lib.hid hg
    clear ho hg
    go_wp2_with fail
    go_ret
    refine ⟨4, rfl, ?_⟩
    unfold Dk.sync
    rw [if_neg (by rw [Ho.out]; decide), Hg.out]
    exact DidR.same Hat.out (Below.refl _ _) _
  · have Hch := Lib.hid (refChanges_at Hat.out ho)
    have Heq := Lib.hid (show d.sync name.data.toList = d.change (put d.files name.data.toList ⟨d.files[i].2.data, d.files[i].2.data.length⟩) by
      unfold Dk.sync; rw [if_neg (by rw [ho]; decide), get_at Hat.out.ok.rising hi he])
    have Hok := Lib.hid (show Ok (d.sync name.data.toList).2 from Hat.out.ok.sync _)
    have He := Lib.hid he
    have Hi := Lib.hid hi
    clear ho he
    go_wp2_with fail
    refine Hch.out.mono ?_
    rintro e w2 ⟨hc2, ⟨n, hn, hn0, rfl, hat2⟩ | ⟨hpos, rfl, hat2⟩⟩
    · have H2 := Lib.hid (show DidR w F (.pointer (some ⟨br, 0, none⟩)) (d.sync name.data.toList) 51 w2 from by
        rw [Heq.out, change_crash hn hn0]; exact ⟨rfl, F, hat2, hc2, fun _ e => .inl e⟩)
      clear hc2 hn hn0 hat2
      go_wp2_with fail
      go_ret
      exact ⟨51, rfl, H2.out⟩
    · obtain ⟨vl2, vk2, st2, nf2, hi2, hf2⟩ := hat2.open_
      obtain ⟨b, c, rfl, hb, hFb, hne, hfr, _, hc, _, hrow⟩ := hi2.atm (ticked_files d) hi
      have hds : d.files[i].2.data.length ≤ 1048576 := Nat.le_trans (data_le (List.getElem_mem hi)) (Nat.le_trans Hat.out.ok.fits Hat.out.ok.room2)
      obtain ⟨s, hs⟩ : ∃ s : ByteArray, s = ⟨d.files[i].2.data.toArray⟩ := ⟨_, rfl⟩
      have hsz : d.files[i].2.data.length = s.size := by rw [hs]; rfl
      replace hc : w2.cell? ⟨b, i * 3 + 1, none⟩ = some (.string s) := by rw [hs]; exact hc
      have c4 := hi2.blk.cell 4
      simp at c4
      have f2 := hfr (i * 3 + 2)
      have hbr := hi2.blk.lt
      have hsb : s.size ≤ 1048576 := by omega
      have hi4 : (i : Int) < d.files.length := by omega
      have HI2 := Lib.hid hi2
      have Hrow := Lib.hid hrow
      have HF2 := Lib.hid hf2
      have HC2 := Lib.hid hc2
      have Hpos := Lib.hid hpos
      have Hsz := Lib.hid hsz
      clear hrow hi2 hf2 hc2 hat2 hpos hfr hs hsz hds
      go_wp2_with fail
      refine wp_region_ext_tail 16 (by kernel_rfl) (by kernel_rfl) fun K hK => ?_
      simp only [List.take_succ_cons, List.take_zero]
      repeat (go_big_quiet_step (fail))
      refine wpQuiet_nil (hK _ fun x => ?_)
      clear hK K
      simp only [List.drop_succ_cons, List.drop_zero]
      have fx := (x.le.frozen (p := ⟨b, i * 3 + 2, none⟩) hb).trans f2
      have Hx := Lib.hid x.le
      go_wp2_with fail
      go_ret
      have ho := OwnF.one2 Hrow.out Hx.out Hi.out s.size
      rw [← Hsz.out, set_put Hat.out.ok.rising Hi.out He.out] at ho
      have hok := Hok.out
      rw [Heq.out, change_made Hpos.out] at hok
      have hfin := HI2.out.oneRow ho.1 ho.2 hok
      refine ⟨0, rfl, ?_⟩
      rw [Heq.out, change_made Hpos.out]
      rw [← Hsz.out]
      refine ⟨rfl, F, ⟨br, _, vk2, st2, nf2, rfl, hfin, HF2.out⟩, HC2.out.trans (ho.2.mono fun k _ e => HI2.out.fl k e), fun _ e => .inl e⟩
set_option maxHeartbeats 2000000 in
theorem refRemove_at {v : Value} (h : RefAt w F v d) (name : ByteArray) :
    Calls Try.prog 52 #[v, .string name] w fun e w' => ∃ r, e = .returned (.int .i64 r) ∧ DidR w F v (d.remove name.data.toList) r w' := by
  have Hat := Lib.hid h
  obtain ⟨br, rfl⟩ := h.ptr
  obtain ⟨vl, vk, st, nf, hi, hrest⟩ := h.open_
  have Ha := Lib.hid (refAsks_in hi name)
  clear hi hrest h
  go_enter Try.func52, Try.ntmps52
  go_wp2_with fail
  refine Ha.out.mono ?_
  rintro e w1 ⟨r, c, rfl, rfl, hh⟩
  clear Ha
  rcases hh with ⟨ho, rfl⟩ | ⟨ho, rfl, hg⟩ | ⟨ho, rfl, i, hi, rfl, he⟩
  · have Ho := Lib.hid ho
    clear ho
    go_wp2_with fail
    go_ret
    refine ⟨51, rfl, ?_⟩
    unfold Dk.remove
    rw [if_pos Ho.out]
    exact DidR.same Hat.out (Below.refl _ _) _
  · have Ho := Lib.hid ho
    have Hg := Lib.hid hg
    clear ho hg
    go_wp2_with fail
    go_ret
    refine ⟨4, rfl, ?_⟩
    unfold Dk.remove
    rw [if_neg (by rw [Ho.out]; decide), Hg.out]
    exact DidR.same Hat.out (Below.refl _ _) _
  · have Hch := Lib.hid (refChanges_at Hat.out ho)
    have Heq := Lib.hid (show d.remove name.data.toList = d.change (del d.files name.data.toList) by
      unfold Dk.remove; rw [if_neg (by rw [ho]; decide), get_at Hat.out.ok.rising hi he])
    have Hok := Lib.hid (show Ok (d.remove name.data.toList).2 from Hat.out.ok.remove _)
    have He := Lib.hid he
    have Hi := Lib.hid hi
    clear ho he
    go_wp2_with fail
    refine Hch.out.mono ?_
    rintro e w2 ⟨hc2, ⟨n, hn, hn0, rfl, hat2⟩ | ⟨hpos, rfl, hat2⟩⟩
    · have H2 := Lib.hid (show DidR w F (.pointer (some ⟨br, 0, none⟩)) (d.remove name.data.toList) 51 w2 from by
        rw [Heq.out, change_crash hn hn0]; exact ⟨rfl, F, hat2, hc2, fun _ e => .inl e⟩)
      clear hc2 hn hn0 hat2
      go_wp2_with fail
      go_ret
      exact ⟨51, rfl, H2.out⟩
    · obtain ⟨vl2, vk2, st2, nf2, hi2, hf2⟩ := hat2.open_
      have Hcut := Lib.hid (hi2.cutm (ticked_files d) hi (by exact He.out))
      have HI2 := Lib.hid hi2
      have HF2 := Lib.hid hf2
      have HC2 := Lib.hid hc2
      have Hpos := Lib.hid hpos
      clear hi2 hf2 hc2 hat2 hpos
      go_wp2_with fail
      refine Hcut.out.mono ?_
      rintro e w3 ⟨rfl, vl3, ho3, hb3, hc3⟩
      have hok := Hok.out
      rw [Heq.out, change_made Hpos.out] at hok
      have H3 := Lib.hid (HI2.out.newRow ho3 hb3 hc3 hok)
      clear ho3 hb3 hc3 hok Hcut
      go_wp2_with fail
      go_ret
      refine ⟨0, rfl, ?_⟩
      rw [Heq.out, change_made Hpos.out]
      refine ⟨rfl, _, ⟨br, _, vk2, st2, nf2, rfl, H3.out.1, HF2.out⟩, Grow.trans ⟨HC2.out, fun _ e => .inl e⟩ H3.out.2⟩
theorem refStart_at {v : Value} (h : RefAt w F v d) :
    Calls Try.prog 54 #[v] w fun e w' => ∃ r, e = .returned (.int .i64 r) ∧ DidR w F v d.start r w' := by
  have Hat := Lib.hid h
  obtain ⟨br, rfl⟩ := h.ptr
  obtain ⟨vl, vk, st, nf, hi, hrest⟩ := h.open_
  have c1 := hi.blk.cell 1
  have c2 := hi.blk.cell 2
  have f1 := hi.blk.free 1
  have f2 := hi.blk.free 2
  simp at c1 c2
  have HI := Lib.hid hi
  have HR := Lib.hid hrest
  clear hi hrest h
  cases ho : d.off with
  | false =>
    rw [ho] at c2
    have Ho := Lib.hid ho
    clear ho
    go_enter Try.func54, Try.ntmps54
    go_wp2_with fail
    go_ret
    refine ⟨2, rfl, ?_⟩
    unfold Dk.start
    rw [if_neg (by rw [Ho.out]; decide)]
    exact DidR.same Hat.out (Below.refl _ _) _
  | true =>
    rw [ho] at c2
    have Ho := Lib.hid ho
    clear ho
    go_enter Try.func54, Try.ntmps54
    go_wp2_with fail
    go_ret
    refine ⟨0, rfl, ?_⟩
    have hok := HI.out.ok.start
    unfold Dk.start at hok ⊢
    rw [if_pos Ho.out] at hok ⊢
    have ew : wrap64 (d.starts + 1) = IntKind.i64.wrap (d.starts + 1) := by unfold wrap64; rw [IntKind.wrap_i64]
    rw [ew]
    have hch : Chg (· = br) w _ := (put_wr w br 2 (.bool false)).trans (put_wr _ br 1 (.int .i64 (IntKind.i64.wrap (d.starts + 1))))
    have hb := (HI.out.blk.set 2 (.bool false)).set 1 (.int .i64 (IntKind.i64.wrap (d.starts + 1)))
    refine ⟨rfl, F, ⟨br, vl, vk, st, nf, rfl, ⟨hb, HI.out.row.chg hch (fun k e x => HI.out.row.ne_blk HI.out.blk (show _ = some br from by rw [e]; exact congrArg some x)), HI.out.kept.chg hch (fun k e x => HI.out.kept.ne_blk HI.out.blk (show _ = some br from by rw [e]; exact congrArg some x)), HI.out.fr, HI.out.fl, HI.out.fk, hok, fun k e => Nat.lt_of_lt_of_le (HI.out.lt k e) hch.size⟩, HR.out⟩, hch.mono fun k _ e => e ▸ HI.out.fr, fun _ e => .inl e⟩
theorem refNew_yes (c : Nat) (w : World) (h1 : 1 ≤ c) (h2 : c ≤ 1048576) : Calls Try.prog 24 #[.int .i64 c] w fun e w' => ∃ v, e = .returned (.tuple #[v, .int .i64 0]) ∧ RefAt w' (· = w.heap.size) v (Dk.new c) ∧ Below w.heap.size w w' := by
  have g1 : ¬ (c : Int) < 1 := by omega
  have g2 : ¬ (1048576 : Int) < c := by omega
  go_enter Try.func24, Try.ntmps24
  go_wp2
  go_ret2
  have hb := Blk.alloc_new w 83 #[.int .i64 c, .int .i64 0, .bool false, .bool false, .slice none 0 0, .int .i64 0, .slice none 0 0]
  refine ⟨.pointer (some ⟨w.heap.size, 0, none⟩), rfl, ⟨w.heap.size, .slice none 0 0, .slice none 0 0, false, 0, rfl, ⟨hb, OwnF.nil _ _, OwnI.nil _ _, rfl, fun k e => (by cases e), fun k e => (by cases e), Ok.new h1 h2, fun k e => (by rw [e]; exact hb.lt)⟩, rfl, fun n e => (by cases e), fun n e => (by cases e)⟩, (Below.refl _ _).alloc (Nat.le_refl _) _⟩
theorem refNew_no (c : Int) (w : World) (hc : c < 1 ∨ 1048576 < c) (hr : -9223372036854775808 ≤ c ∧ c ≤ 9223372036854775807) : Calls Try.prog 24 #[.int .i64 c] w fun e w' => e = .returned (.tuple #[.pointer none, .int .i64 2]) ∧ w = w' := by
  obtain ⟨hr1, hr2⟩ := hr
  by_cases h1 : c < 1
  · clear hc
    go_enter Try.func24, Try.ntmps24
    go_wp2
    go_ret2
    exact ⟨rfl, rfl⟩
  · have h2 : 1048576 < c := by omega
    clear hc
    go_enter Try.func24, Try.ntmps24
    go_wp2
    go_ret2
    exact ⟨rfl, rfl⟩
end
end Go.Proofs.Ytnngdflamkdgaaa

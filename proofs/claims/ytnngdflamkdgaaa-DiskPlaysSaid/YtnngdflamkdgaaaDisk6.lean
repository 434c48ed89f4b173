/- The disk's crash: the loop over all files. -/
import Derived.Test.YtnngdflamkdgaaaDisk5
namespace Go.Proofs.Ytnngdflamkdgaaa
set_option maxRecDepth 100000
open Go.RowKit Go.Maps
open Dsk

theorem Chg.drewN' {S : Nat → Prop} {w : World} (n : Nat) : Chg S w (w.drewN n) := (Chg.refl S w).drewN n
theorem put_wr (w : World) (b : Nat) (i : Nat) (u : Value) : Chg (· = b) w (w.setCell ⟨b, i, none⟩ u) := (Chg.refl (· = b) w).setCell (p := ⟨b, i, none⟩) (fun _ => rfl) u

section
variable {w : World} {F : Nat → Prop} {bd bm : Nat} {cv kv : Value} {d : Dk}
set_option maxRecDepth 100000 in
set_option maxHeartbeats 1600000 in
theorem crash_on (h : DiskIn w F bd bm cv kv d) (hoff : d.off = false) (v : Value) (keep : List Int) (hk : KeepR w (fun k => k = bd ∨ k = bm) v keep) (hkl : keep.length ≤ 9223372036854775807) :
    Calls Try.prog 35 #[.pointer (some ⟨bd, 0, none⟩), v] w fun e w' => e = .returned (.int .i64 0) ∧ DiskIn w' F bd bm .nilFunc kv (d.crashed keep) ∧ Chg (fun k => k = bd ∨ k = bm) w w' := by
  have hr := runs_in h
  rw [hoff] at hr
  have hbd := h.blk.lt
  have hcnt := h.ok.count
  have c2 := h.blk.cell 2
  have c4 := h.blk.cell 4
  have f2 := h.blk.free 2
  have f4 := h.blk.free 4
  simp at c2 c4
  obtain ⟨w1, hw1⟩ : ∃ w1, w1 = (w.setCell ⟨bd, 2, none⟩ (.bool true)).setCell ⟨bd, 4, none⟩ .nilFunc := ⟨_, rfl⟩
  have hc1 : Chg (· = bd) w w1 := by rw [hw1]; exact (put_wr w bd 2 _).trans (put_wr _ bd 4 _)
  have h1 : DiskIn w1 F bd bm .nilFunc kv { d with off := true, fail := none } := h.stop (by rw [hw1]; exact (h.blk.set 2 _).set 4 _) hc1
  have hn := names_in h1
  have H := Lib.hid h
  have H1 := Lib.hid h1
  have Hc1 := Lib.hid hc1
  have Hn := Lib.hid hn
  have HW := Lib.hid hw1
  have hk1 := hk.chg hc1 (fun k e => .inl e)
  have Hk := Lib.hid hk1
  clear h h1 hc1 hn hw1 hk hk1
  go_enter Try.func35, Try.ntmps35
  go_wp2_with (go_at_call 38; refine hr.mono ?_; rintro e w' ⟨rfl, rfl⟩)
  rw [← HW.out]
  refine Hn.out.mono ?_
  rintro e w2 ⟨vn, rfl, hown, hb2⟩
  obtain ⟨x, c, rfl, hcell⟩ := hown.each
  rw [names_len]
  have hz1 := hb2.size
  have hz0 := Hc1.out.size
  have h2 := H1.out.below hb2
  have hk2 := Hk.out.chg (Chg.of_below hb2) (T := fun _ => False) (fun _ e => e.elim)
  have hbd2 := h2.blk.lt
  have Hb2 := Lib.hid hb2
  have Hcell := Lib.hid hcell
  have H2 := Lib.hid h2
  obtain ⟨vx, vc, rfl, _, hkc⟩ := hk2
  have Hkc := Lib.hid hkc
  clear hb2 hcell h2 hkc hown c2 c4 f2 f4 Hk hr
  go_wp2_with fail
  go_loopw [6, 7, 8, 23] (fun _ _ _ v23 wr => ∃ k : Nat, v23 = .int .i64 k ∧ k ≤ d.files.length ∧ OwnM wr bm (cutTo keep k d.files) ∧ Chg (· = bm) w2 wr) (fun _ _ _ v23 _ => d.files.length - (intOf v23).toNat)
  case atStart => exact ⟨0, rfl, Nat.zero_le _, by rw [cutTo_zero]; exact H2.out.map, Chg.refl _ _⟩
  case round =>
    obtain ⟨k, rfl, hk, hm, hch⟩ := hrel
    have hbm := map_ne_blk H2.out.map H2.out.blk
    have hz2 := hch.size
    have c3 := (H2.out.blk.chg hch hbm.symm).cell 3
    simp at c3
    have Hm := Lib.hid hm
    have Hch := Lib.hid hch
    have hbr : bd < wr.heap.size := by omega
    clear hm hch
    by_cases hlt : k < d.files.length
    · obtain ⟨b, rfl, hbw, hbl, hc⟩ := Hcell.out k (by rw [names_len]; exact hlt)
      rw [strs_get d.files k hlt] at hc
      have hbne : b ≠ bm := by have := H1.out.map.lt; omega
      have hc2 := (Hch.out.cell (p := ⟨b, k, none⟩) hbl hbne).trans hc
      have Hns := Lib.hid (name_size H.out.ok.named k hlt)
      obtain ⟨hg, hput⟩ := cutTo_step keep k d.files H.out.ok.rising hlt
      have hsf := H.out.ok.safe _ (List.getElem_mem hlt)
      have hdl := data_le (List.getElem_mem hlt)
      have hft := H.out.ok.fits
      have hr2 := H.out.ok.room2
      obtain ⟨s, n, hsn⟩ : ∃ (s : ByteArray) (n : Nat), d.files[k].2 = ⟨s.data.toList, n⟩ := ⟨⟨d.files[k].2.data.toArray⟩, d.files[k].2.safe, rfl⟩
      have hl : s.data.toList.length = s.size := by simp
      rw [hsn] at hsf hdl hg hput
      simp only [hl] at hsf hdl
      have hsb : s.size ≤ 1048576 := by omega
      have Hl := Lib.hid hl
      obtain ⟨name, hname⟩ : ∃ name : ByteArray, name = ⟨d.files[k].1.toArray⟩ := ⟨_, rfl⟩
      rw [← hname] at hc2
      have hnl : d.files[k].1 = name.data.toList := by rw [hname]
      rw [hnl] at hg hput
      have HN := Lib.hid (show name.size ≤ maxLen by rw [hname]; exact Hns.out)
      have HF := Lib.hid (show (get (cutTo keep k d.files) name.data.toList).getD ⟨[], 0⟩ = ⟨s.data.toList, n⟩ by rw [hg]; rfl)
      have Hput := Lib.hid hput
      clear hsn hname hc hl hdl hft hr2 hnl hg hput
      by_cases hik : k < keep.length
      · have hik2 : ((k : Int) < keep.length) = True := by simp; omega
        obtain ⟨bk, koff, rfl, hkb, hkn, hkc⟩ := Hkc.out k hik
        have hk3 := (Hch.out.cell (p := ⟨bk, koff + k, none⟩) hkb (fun e => hkn (.inr e))).trans hkc
        obtain ⟨kx, hkx⟩ : ∃ kx, keep[k] = kx := ⟨_, rfl⟩
        rw [hkx] at hk3
        have hkbr : bk < wr.heap.size := by omega
        obtain ⟨m, hm⟩ : ∃ m : Nat, (n : Int) + min (max kx 0) ((s.size : Int) - n) = m := ⟨((n : Int) + min (max kx 0) ((s.size : Int) - n)).toNat, by omega⟩
        have hms : m ≤ s.size := by omega
        have HM := Lib.hid hm
        have Hsome := Lib.hid (show cutF ⟨s.data.toList, n⟩ keep[k]? = ⟨(s.extract 0 m).data.toList, m⟩ by
          rw [List.getElem?_eq_getElem hik, hkx, extract_list]
          have e : stays ⟨s.data.toList, n⟩ (some kx) = m := by unfold stays; simp only [Option.getD_some, Hl.out]; omega
          unfold cutF; rw [e]; simp)
        clear hkn hkc hkx hm
        go_wp2_with (first
          | (at_lookup; refine wpList_look rfl (.tmp 31) (.tmp 32) rfl bm _ rfl Hm.out name rfl HN.out s n HF.out ?_))
        have hz3 : (wr.alloc (.cells #[.string s, .int .i64 n] 72 (0, 0))).heap.size = wr.heap.size + 1 := by simp
        have hblk := Blk.alloc_new wr 72 #[.string s, .int .i64 n]
        obtain ⟨w3, hw3⟩ : ∃ w3, w3 = wr.alloc (.cells #[.string s, .int .i64 n] 72 (0, 0)) := ⟨_, rfl⟩
        have hb3 : Below wr.heap.size wr w3 := by rw [hw3]; exact (Below.refl _ _).alloc (Nat.le_refl _) _
        rw [← hw3] at hblk hz3 ⊢
        have d3 := (hb3.cell (p := ⟨bd, 3, none⟩) hbr).trans c3
        have dk := (hb3.cell (p := ⟨bk, koff + k, none⟩) hkbr).trans hk3
        have d0 := hblk.cell 0
        have d1 := hblk.cell 1
        simp at d0 d1
        have Hblk := Lib.hid hblk
        have Hb3 := Lib.hid hb3
        have Hw3 := Lib.hid hw3
        clear hblk hb3 hw3 c3 hk3
        have w0 : IntKind.i64.wrap ((s.size : Int) - n) = (s.size : Int) - n := IntWalk.i64_in _ ⟨by omega, by omega⟩
        have w5 : IntKind.i64.wrap ((n : Int) + min (max kx 0) ((s.size : Int) - n)) = m := by rw [HM.out]; exact IntWalk.i64_in _ ⟨by omega, by omega⟩
        refine wp_region_ext_tail 16 (by kernel_rfl) (by kernel_rfl) fun K hK => ?_
        simp only [List.take_succ_cons, List.take_zero]
        repeat (go_big_quiet_step (fail))
        refine wpQuiet_nil (hK _ fun x => ?_)
        clear hK K
        simp only [List.drop_succ_cons, List.drop_zero]
        have hbx := Hblk.out.ext x
        have hx := x.le
        have g3 := (hx.cell (p := ⟨bd, 3, none⟩) (by show bd < _; omega)).trans d3
        have g1 := hbx.free 1
        have g0 := hbx.cell 0
        have gf0 := hbx.free 0
        have g1' := hbx.cell 1
        simp at g0 g1'
        have Hbx := Lib.hid hbx
        have Hx := Lib.hid hx
        clear hbx hx d0 d1 d3 dk
        go_wp2_with fail
        obtain ⟨w4, hw4⟩ : ∃ w4, w4 = (x.wd.setCell ⟨wr.heap.size, 1, none⟩ (.int .i64 m)).setCell ⟨wr.heap.size, 0, none⟩ (.string (s.extract 0 m)) := ⟨_, rfl⟩
        have hb4 : Below wr.heap.size wr w4 := by rw [hw4]; exact ((Hb3.out.trans (Hx.out.mono (by omega))).setCell (Nat.le_refl _) _).setCell (Nat.le_refl _) _
        have hbB : Blk w4 wr.heap.size 72 #[.string (s.extract 0 m), .int .i64 m] := by rw [hw4]; exact (Hbx.out.set 1 (.int .i64 m)).set 0 (.string (s.extract 0 m))
        rw [← hw4]
        have b0 := hbB.cell 0
        have b1 := hbB.cell 1
        simp at b0 b1
        have b3 : w4.cell? ⟨bd, 3, none⟩ = some (.map (some bm)) := (hb4.cell (p := ⟨bd, 3, none⟩) hbr).trans ((((Hb3.out.trans (Hx.out.mono (by omega))).cell (p := ⟨bd, 3, none⟩) hbr).symm).trans g3)
        have hz4 := hb4.size
        have hbl4 := hbB.lt
        have Hb4 := Lib.hid hb4
        clear hw4 hb4 hbB g0 g1 g3 g1' gf0
        refine wp_region_ext_tail 6 (by kernel_rfl) (by kernel_rfl) fun K hK => ?_
        simp only [List.take_succ_cons, List.take_zero]
        repeat (go_big_quiet_step (fail))
        refine wpQuiet_nil (hK _ fun x => ?_)
        clear hK K
        simp only [List.drop_succ_cons, List.drop_zero]
        have Hm2 := Lib.hid ((Hm.out.below Hb4.out).below x.le)
        have Hx2 := Lib.hid x.le
        refine wpList_put rfl (.tmp 63) (.tmp 64) (.tmp 65) rfl bm _ rfl Hm2.out (by rw [cutTo_length]; omega) name rfl HN.out (s.extract 0 m) m rfl ?_
        intro w5 hm5 hc5
        have Hm5 := Lib.hid hm5
        have Hc5 := Lib.hid hc5
        clear hm5 hc5
        go_wp2_with fail
        go_roundw
        case rel => exact ⟨k + 1, by go_num, by omega, by rw [← Hput.out, Hsome.out]; exact Hm5.out, Hch.out.trans ((Chg.of_below (Hb4.out.trans (Hx2.out.mono (by omega)))).trans Hc5.out)⟩
        case measure => simp [intOf]; omega
      · have hik2 : ((k : Int) < keep.length) = False := by simp; omega
        have Hnone := Lib.hid (show cutF ⟨s.data.toList, n⟩ keep[k]? = ⟨(s.extract 0 n).data.toList, n⟩ by
          rw [List.getElem?_eq_none (by omega), extract_list]
          have e : stays ⟨s.data.toList, n⟩ none = n := by unfold stays; simp only [Option.getD_none, Hl.out]; omega
          unfold cutF; rw [e]; simp)
        go_wp2_with (first
          | (at_lookup; refine wpList_look rfl (.tmp 31) (.tmp 32) rfl bm _ rfl Hm.out name rfl HN.out s n HF.out ?_))
        have hz3 : (wr.alloc (.cells #[.string (s.extract 0 n), .int .i64 n] 72 (0, 0))).heap.size = wr.heap.size + 1 := by simp
        have hblk := Blk.alloc_new wr 72 #[.string (s.extract 0 n), .int .i64 n]
        obtain ⟨w3, hw3⟩ : ∃ w3, w3 = wr.alloc (.cells #[.string (s.extract 0 n), .int .i64 n] 72 (0, 0)) := ⟨_, rfl⟩
        have hb3 : Below wr.heap.size wr w3 := by rw [hw3]; exact (Below.refl _ _).alloc (Nat.le_refl _) _
        rw [← hw3] at hblk hz3 ⊢
        have d3 := (hb3.cell (p := ⟨bd, 3, none⟩) hbr).trans c3
        have d0 := hblk.cell 0
        have d1 := hblk.cell 1
        simp at d0 d1
        have Hb3 := Lib.hid hb3
        have Hw3 := Lib.hid hw3
        clear hblk hb3 hw3 c3
        refine wp_region_ext_tail 6 (by kernel_rfl) (by kernel_rfl) fun K hK => ?_
        simp only [List.take_succ_cons, List.take_zero]
        repeat (go_big_quiet_step (fail))
        refine wpQuiet_nil (hK _ fun x => ?_)
        clear hK K
        simp only [List.drop_succ_cons, List.drop_zero]
        have Hm2 := Lib.hid ((Hm.out.below Hb3.out).below x.le)
        have Hx := Lib.hid x.le
        refine wpList_put rfl (.tmp 63) (.tmp 64) (.tmp 65) rfl bm _ rfl Hm2.out (by rw [cutTo_length]; omega) name rfl HN.out (s.extract 0 n) n rfl ?_
        intro w4 hm4 hc4
        have Hm4 := Lib.hid hm4
        have Hc4 := Lib.hid hc4
        clear hm4 hc4
        go_wp2_with fail
        go_roundw
        case rel => exact ⟨k + 1, by go_num, by omega, by rw [← Hput.out, Hnone.out]; exact Hm4.out, Hch.out.trans ((Chg.of_below (Hb3.out.trans (Hx.out.mono (by omega)))).trans Hc4.out)⟩
        case measure => simp [intOf]; omega
    · obtain rfl : k = d.files.length := by omega
      have hend := Hm.out
      rw [cutTo_end] at hend
      have hok := H.out.ok.crashed keep
      have hfin := H2.out.files hend Hch.out hok
      have hcc : Chg (fun k => k = bd ∨ k = bm) w wr := (Hc1.out.mono fun _ _ e => .inl e).trans ((Chg.of_below Hb2.out).trans (Hch.out.mono fun _ _ e => .inr e))
      have Hfin := Lib.hid hfin
      have Hcc := Lib.hid hcc
      clear hend hok hfin hcc
      go_wp2_with fail
      go_ret
      exact ⟨rfl, Hfin.out, Hcc.out⟩
end
end Go.Proofs.Ytnngdflamkdgaaa

/- The reference's disk: its crash. -/
import Derived.Test.YtenbgfejonokdaaRefA
import Derived.Test.YtenbgfejonokdaaDiskCrash
import Derived.Laws.OwnMore
namespace Go.Proofs.Ytenbgfejonokdaa
open Go.RowKit Go.Maps
open Dsk

theorem cellsF_set : ∀ (m : Files) (i : Nat) (hi : i < m.length) (s : ByteArray) (t : Nat), ((cellsF m).set (i * 3 + 1) (.string s)).set (i * 3 + 2) (.int .i64 t) = cellsF (m.set i (m[i].1, ⟨s.data.toList, t⟩))
  | p :: r, 0, _, s, t => rfl
  | p :: r, i + 1, hi, s, t => by
    have h := cellsF_set r i (by simpa using hi) s t
    have e : cellsF (p :: r) = [.string ⟨p.1.toArray⟩, .string ⟨p.2.data.toArray⟩, .int .i64 p.2.safe] ++ cellsF r := rfl
    have e2 : cellsF ((p :: r).set (i + 1) ((p :: r)[i + 1].1, ⟨s.data.toList, t⟩)) = [.string ⟨p.1.toArray⟩, .string ⟨p.2.data.toArray⟩, .int .i64 p.2.safe] ++ cellsF (r.set i ((r[i]'(by simpa using hi)).1, ⟨s.data.toList, t⟩)) := rfl
    rw [e, e2, ← h, show (i + 1) * 3 + 1 = (i * 3 + 1) + 3 by omega, show (i + 1) * 3 + 2 = (i * 3 + 2) + 3 by omega]
    rfl
theorem cutTo_at (keep : List Int) (k : Nat) (m : Files) (hk : k < m.length) (hk' : k < (cutTo keep k m).length) : (cutTo keep k m)[k] = m[k] := by
  have hl : (cutL keep 0 (m.take k)).length = k := by rw [cutL_length, List.length_take]; omega
  have : (cutTo keep k m)[k]? = some m[k] := by
    unfold cutTo
    rw [List.getElem?_append_right (by omega), hl, Nat.sub_self, List.getElem?_drop]
    simp [hk]
  rw [List.getElem?_eq_getElem hk'] at this
  exact Option.some.inj this
theorem cutTo_set (keep : List Int) (k : Nat) (m : Files) (hk : k < m.length) : (cutTo keep k m).set k (m[k].1, cutF m[k].2 keep[k]?) = cutTo keep (k + 1) m := by
  have hl : (cutL keep 0 (m.take k)).length = k := by rw [cutL_length, List.length_take]; omega
  unfold cutTo
  rw [List.take_succ_eq_append_getElem hk, cutL_append, List.set_append_right _ _ (by omega), hl, Nat.sub_self, List.drop_eq_getElem_cons hk, List.set_cons_zero, List.append_assoc, List.length_take, Nat.min_eq_left (Nat.le_of_lt hk), Nat.zero_add]
  rfl
section
variable {w : World} {F : Nat → Prop} {br : Nat} {vl vk : Value} {st : Bool} {nf : Int} {d : Dk}
theorem OwnF.ne_blk {B br : Nat} {m : Files} {cs : Array Value} (h : OwnF w B vl m) (hb : Blk w br 115 cs) : vl.ownBlock ≠ some br := by
  rcases h.2 with ⟨rfl, _⟩ | ⟨g, cap, cur, rfl, _, hh, _⟩
  · simp [Value.ownBlock]
  · intro e
    have : g = br := by simpa [Value.ownBlock] using e
    subst this
    unfold Blk at hb
    rw [hb] at hh
    injection hh with hh
    injection hh with _ hh _
    exact absurd hh (by decide)
theorem OwnI.ne_blk {B br : Nat} {m : List Int} {cs : Array Value} (h : OwnI w B vk m) (hb : Blk w br 115 cs) : vk.ownBlock ≠ some br := by
  rcases h.2 with ⟨rfl, _⟩ | ⟨g, cap, cur, rfl, _, hh, _⟩
  · simp [Value.ownBlock]
  · intro e
    have : g = br := by simpa [Value.ownBlock] using e
    subst this
    unfold Blk at hb
    rw [hb] at hh
    injection hh with hh
    injection hh with _ hh _
    exact absurd hh (by decide)
theorem OwnI.ne_row {B B' : Nat} {l : List Int} {m : Files} (h : OwnI w B vk l) (k : OwnF w B' vl m) {b : Nat} (e : vk.ownBlock = some b) (e' : vl.ownBlock = some b) : False := by
  rcases h.2 with ⟨rfl, _⟩ | ⟨g, cap, cur, rfl, _, hh, _⟩
  · cases e
  · rcases k.2 with ⟨rfl, _⟩ | ⟨g', cap', cur', rfl, _, hh', _⟩
    · cases e'
    · have h1 : g = b := by simpa [Value.ownBlock] using e
      have h2 : g' = b := by simpa [Value.ownBlock] using e'
      subst h1 h2
      rw [hh] at hh'
      injection hh' with hh'
      injection hh' with _ hh' _
      exact absurd hh' (by decide)
/-- The two stores of one file. -/
theorem OwnF.two {B b n c : Nat} {m : Files} (h : OwnF w B (.slice (some ⟨b, 0, none⟩) n c) m) {w1 : World} (hw : Below w.heap.size w w1) {i : Nat} (hi : i < m.length) (s : ByteArray) (t : Nat) :
    OwnF ((w1.setCell ⟨b, i * 3 + 1, none⟩ (.string s)).setCell ⟨b, i * 3 + 2, none⟩ (.int .i64 t)) B (.slice (some ⟨b, 0, none⟩) n c) (m.set i (m[i].1, ⟨s.data.toList, t⟩)) ∧ Chg (· = b) w ((w1.setCell ⟨b, i * 3 + 1, none⟩ (.string s)).setCell ⟨b, i * 3 + 2, none⟩ (.int .i64 t)) := by
  obtain ⟨_, _, hv, _⟩ := h.shape
  injection hv with _ hn _
  subst hn
  have h1 := h.below hw
  have h2 := World.ownsRow.stored h1 (i * 3 + 1) (.string s)
  have h3 := World.ownsRow.stored h2.1 (i * 3 + 2) (.int .i64 t)
  rw [cellsF_set m i hi s t] at h3
  refine ⟨?_, ((Chg.of_below hw).trans (Chg.grown h2.2)).trans (Chg.grown h3.2)⟩
  unfold OwnF
  rw [List.length_set]
  exact h3.1
theorem refCrash_off (h : RefIn w F br vl vk st nf d) (hoff : d.off = true) (kv : Value) : Calls Try.prog 34 #[.pointer (some ⟨br, 0, none⟩), kv] w fun e w' => e = .returned (.int .i64 51) ∧ w = w' := by
  have c2 := h.blk.cell 2
  simp at c2
  rw [hoff] at c2
  clear h hoff
  go_enter Try.func34, Try.ntmps34
  go_wp2_with fail
  go_ret
  exact ⟨rfl, rfl⟩
set_option maxRecDepth 100000 in
set_option maxHeartbeats 2000000 in
theorem refCrash_on (h : RefIn w F br vl vk st nf d) (hoff : d.off = false) (kv : Value) (keep : List Int) (hk : KeepR w (fun k => k = br ∨ vl.ownBlock = some k) kv keep) (hkl : keep.length ≤ 9223372036854775807) :
    Calls Try.prog 34 #[.pointer (some ⟨br, 0, none⟩), kv] w fun e w' => e = .returned (.int .i64 0) ∧ RefIn w' F br vl vk false nf (d.crashed keep) ∧ Chg (fun k => k = br ∨ vl.ownBlock = some k) w w' := by
  have c2 := h.blk.cell 2
  have f2 := h.blk.free 2
  have c3 := h.blk.cell 3
  have f3 := h.blk.free 3
  simp at c2 c3
  rw [hoff] at c2
  have hbr := h.blk.lt
  have hcnt := h.ok.count
  obtain ⟨w1, hw1⟩ : ∃ w1, w1 = (w.setCell ⟨br, 2, none⟩ (.bool true)).setCell ⟨br, 3, none⟩ (.bool false) := ⟨_, rfl⟩
  have hc1 : Chg (· = br) w w1 := by rw [hw1]; exact (put_wr w br 2 _).trans (put_wr _ br 3 _)
  have hb1 : Blk w1 br 115 #[.int .i64 d.room, .int .i64 d.starts, .bool true, .bool false, vl, .int .i64 nf, vk] := by rw [hw1]; exact (h.blk.set 2 _).set 3 _
  have hne := h.row.ne_blk h.blk
  have hr1 := h.row.chg hc1 (fun k e x => hne (x ▸ e))
  have hk1 := hk.chg hc1 (fun k e => .inl e)
  obtain ⟨x, c, hvl, _⟩ := h.row.shape
  obtain ⟨vx, vc, rfl, _, hkc⟩ := hk1
  have H := Lib.hid h
  have Hc1 := Lib.hid hc1
  have Hb1 := Lib.hid hb1
  have Hr1 := Lib.hid hr1
  have Hne := Lib.hid hne
  have Hkc := Lib.hid hkc
  have HW := Lib.hid hw1
  have hz1 := hc1.size
  have hbr1 := hb1.lt
  subst hvl
  clear h hc1 hb1 hr1 hw1 hk hkc hoff hne
  go_enter Try.func34, Try.ntmps34
  go_wp2_with fail
  rw [← HW.out]
  clear c2 f2 c3 f3
  go_loopw [5, 6] (fun v5 _ wr => ∃ k : Nat, v5 = .int .i64 k ∧ k ≤ d.files.length ∧ OwnF wr 0 (.slice x d.files.length c) (cutTo keep k d.files) ∧ Chg (fun k => (Value.slice x d.files.length c).ownBlock = some k) w1 wr) (fun v5 _ _ => d.files.length - (intOf v5).toNat)
  case atStart => exact ⟨0, rfl, Nat.zero_le _, by rw [cutTo_zero]; exact Hr1.out, Chg.refl _ _⟩
  case round =>
    obtain ⟨k, rfl, hk, hrow, hch⟩ := hrel
    have hbk := Hb1.out.chg hch Hne.out
    have c4 := hbk.cell 4
    simp at c4
    have hz2 := hch.size
    have hbr2 := hbk.lt
    have Hrow := Lib.hid hrow
    have Hch := Lib.hid hch
    have Hbk := Lib.hid hbk
    clear hrow hch hbk
    by_cases hlt : k < d.files.length
    · have hlt' : k < (cutTo keep k d.files).length := by rw [cutTo_length]; exact hlt
      obtain ⟨b, c', hv, _, hb, hfr, hcl⟩ := Hrow.out.at_ (by omega)
      obtain ⟨_, hc1, hc2⟩ := hcl k hlt'
      rw [cutTo_at keep k d.files hlt] at hc1 hc2
      injection hv with e1 e2 e3
      subst e1 e3
      have f1 := hfr (k * 3 + 1)
      have f2 := hfr (k * 3 + 2)
      have hset := cutTo_set keep k d.files hlt
      have hsf := H.out.ok.safe _ (List.getElem_mem hlt)
      have hdl := data_le (List.getElem_mem hlt)
      have hft := H.out.ok.fits
      have hr2 := H.out.ok.room2
      obtain ⟨s, n, hsn⟩ : ∃ (s : ByteArray) (n : Nat), d.files[k].2 = ⟨s.data.toList, n⟩ := ⟨⟨d.files[k].2.data.toArray⟩, d.files[k].2.safe, rfl⟩
      have hl : s.data.toList.length = s.size := by simp
      rw [hsn] at hsf hdl hset hc1 hc2
      simp only [hl] at hsf hdl
      have hss : (⟨s.data.toList.toArray⟩ : ByteArray) = s := by simp
      rw [hss] at hc1
      simp only at hc2
      have hsb : s.size ≤ 1048576 := by omega
      have Hl := Lib.hid hl
      have Hset := Lib.hid hset
      have hbb : b ≠ br := fun e => Hne.out (by rw [e]; rfl)
      have hi2 : (k : Int) < d.files.length := by omega
      clear hcl hfr hdl hft hr2 hl hset e2 hss
      by_cases hik : k < keep.length
      · obtain ⟨bk, koff, rfl, hkb, hkn, hkc⟩ := Hkc.out k hik
        have hk3 := (Hch.out.cell (p := ⟨bk, koff + k, none⟩) hkb (fun e => hkn (.inr e))).trans hkc
        obtain ⟨kx, hkx⟩ : ∃ kx, keep[k] = kx := ⟨_, rfl⟩
        rw [hkx] at hk3
        have hkl2 : (k : Int) < keep.length := by omega
        have Hkx := Lib.hid (show keep[k]? = some kx by rw [List.getElem?_eq_getElem hik, hkx])
        clear hkc hkn hkb hkx
        by_cases hpos : 0 < kx
        · have q : decide (0 < kx) = true := decide_eq_true hpos
          obtain ⟨m, hm⟩ : ∃ m : Nat, (n : Int) + min kx ((s.size : Int) - n) = m := ⟨((n : Int) + min kx ((s.size : Int) - n)).toNat, by omega⟩
          have hms : m ≤ s.size := by omega
          have Hcut := Lib.hid (show cutF ⟨s.data.toList, n⟩ keep[k]? = ⟨(s.extract 0 m).data.toList, m⟩ by
            rw [Hkx.out, extract_list]
            have e : stays ⟨s.data.toList, n⟩ (some kx) = m := by unfold stays; simp only [Option.getD_some, Hl.out]; omega
            unfold cutF; rw [e]; simp)
          have w0 : IntKind.i64.wrap ((s.size : Int) - n) = (s.size : Int) - n := IntWalk.i64_in _ ⟨by omega, by omega⟩
          have w5 : IntKind.i64.wrap ((n : Int) + min kx ((s.size : Int) - n)) = m := by rw [hm]; exact IntWalk.i64_in _ ⟨by omega, by omega⟩
          clear hm
          go_wp2_with fail
          go_region_held3 (fun w' => w'.cell? ⟨br, 4, none⟩ = some (.slice (some ⟨b, 0, none⟩) d.files.length c) ∧ w'.cell? ⟨b, k * 3 + 1, none⟩ = some (.string s) ∧ w'.cell? ⟨bk, koff + k, none⟩ = some (.int .i64 kx)) (go_keep) ((fail))
          clear w5 w0
          go_wp2_with fail
          refine wp_region_ext_tail 17 (by kernel_rfl) (by kernel_rfl) fun K hK => ?_
          simp only [List.take_succ_cons, List.take_zero]
          repeat (go_big_quiet_step (fail))
          refine wpQuiet_nil (hK _ fun x => ?_)
          clear hK K
          simp only [List.drop_succ_cons, List.drop_zero]
          have fx := (x.le.frozen (p := ⟨b, k * 3 + 1, none⟩) hb).trans f1
          have cx := (x.le.cell (p := ⟨b, k * 3 + 1, none⟩) hb).trans hc1
          have Hx := Lib.hid (((Below.refl wr.heap.size wr).drew).trans x.le)
          go_wp2_with fail
          obtain ⟨w4, hw4⟩ : ∃ w4, w4 = x.wd.setCell ⟨b, k * 3 + 1, none⟩ (.string (s.extract 0 m)) := ⟨_, rfl⟩
          have g4 : w4.cell? ⟨br, 4, none⟩ = some (.slice (some ⟨b, 0, none⟩) d.files.length c) := by rw [hw4, World.cell?_setCell_far _ _ _ _ hbb]; exact (x.le.cell (p := ⟨br, 4, none⟩) hbr2).trans c4
          have g2 : w4.cell? ⟨b, k * 3 + 2, none⟩ = some (.int .i64 n) := by rw [hw4]; refine (World.cell?_setCell_other _ _ _ _ (by simp)).trans ?_; exact (x.le.cell (p := ⟨b, k * 3 + 2, none⟩) hb).trans hc2
          have gf : w4.frozen? ⟨b, k * 3 + 2, none⟩ = false := by rw [hw4]; simp; exact (x.le.frozen (p := ⟨b, k * 3 + 2, none⟩) hb).trans f2
          rw [← hw4]
          have HW4 := Lib.hid hw4
          clear hw4 fx cx hc1 hc2 f1 f2 c4
          go_wp2_with fail
          have Htwo := Lib.hid (Hrow.out.two Hx.out hlt' (s.extract 0 m) m)
          rw [cutTo_at keep k d.files hlt, ← Hcut.out, Hset.out, ← HW4.out] at Htwo
          go_roundw
          case rel => exact ⟨k + 1, by go_num, by omega, Htwo.out.1, Hch.out.trans (Htwo.out.2.mono fun _ _ e => by rw [e]; rfl)⟩
          case measure => simp [intOf]; omega
        · have q : decide (0 < kx) = false := decide_eq_false hpos
          have Hcut := Lib.hid (show cutF ⟨s.data.toList, n⟩ keep[k]? = ⟨(s.extract 0 n).data.toList, n⟩ by
            rw [Hkx.out, extract_list]
            have e : stays ⟨s.data.toList, n⟩ (some kx) = n := by unfold stays; simp only [Option.getD_some, Hl.out]; omega
            unfold cutF; rw [e]; simp)
          go_wp2_with fail
          refine wp_region_ext_tail 17 (by kernel_rfl) (by kernel_rfl) fun K hK => ?_
          simp only [List.take_succ_cons, List.take_zero]
          repeat (go_big_quiet_step (fail))
          refine wpQuiet_nil (hK _ fun x => ?_)
          clear hK K
          simp only [List.drop_succ_cons, List.drop_zero]
          have fx := (x.le.frozen (p := ⟨b, k * 3 + 1, none⟩) hb).trans f1
          have cx := (x.le.cell (p := ⟨b, k * 3 + 1, none⟩) hb).trans hc1
          have Hx := Lib.hid x.le
          go_wp2_with fail
          obtain ⟨w4, hw4⟩ : ∃ w4, w4 = x.wd.setCell ⟨b, k * 3 + 1, none⟩ (.string (s.extract 0 n)) := ⟨_, rfl⟩
          have g4 : w4.cell? ⟨br, 4, none⟩ = some (.slice (some ⟨b, 0, none⟩) d.files.length c) := by rw [hw4, World.cell?_setCell_far _ _ _ _ hbb]; exact (x.le.cell (p := ⟨br, 4, none⟩) hbr2).trans c4
          have g2 : w4.cell? ⟨b, k * 3 + 2, none⟩ = some (.int .i64 n) := by rw [hw4]; refine (World.cell?_setCell_other _ _ _ _ (by simp)).trans ?_; exact (x.le.cell (p := ⟨b, k * 3 + 2, none⟩) hb).trans hc2
          have gf : w4.frozen? ⟨b, k * 3 + 2, none⟩ = false := by rw [hw4]; simp; exact (x.le.frozen (p := ⟨b, k * 3 + 2, none⟩) hb).trans f2
          rw [← hw4]
          have HW4 := Lib.hid hw4
          clear hw4 fx cx hc1 hc2 f1 f2 c4
          go_wp2_with fail
          have Htwo := Lib.hid (Hrow.out.two Hx.out hlt' (s.extract 0 n) n)
          rw [cutTo_at keep k d.files hlt, ← Hcut.out, Hset.out, ← HW4.out] at Htwo
          go_roundw
          case rel => exact ⟨k + 1, by go_num, by omega, Htwo.out.1, Hch.out.trans (Htwo.out.2.mono fun _ _ e => by rw [e]; rfl)⟩
          case measure => simp [intOf]; omega
      · have q : decide ((k : Int) < keep.length) = false := decide_eq_false (by omega)
        have q' : decide (k < keep.length) = false := decide_eq_false (by omega)
        have Hcut := Lib.hid (show cutF ⟨s.data.toList, n⟩ keep[k]? = ⟨(s.extract 0 n).data.toList, n⟩ by
          rw [List.getElem?_eq_none (by omega), extract_list]
          have e : stays ⟨s.data.toList, n⟩ none = n := by unfold stays; simp only [Option.getD_none, Hl.out]; omega
          unfold cutF; rw [e]; simp)
        go_wp2_with fail
        refine wp_region_ext_tail 17 (by kernel_rfl) (by kernel_rfl) fun K hK => ?_
        simp only [List.take_succ_cons, List.take_zero]
        repeat (go_big_quiet_step (fail))
        refine wpQuiet_nil (hK _ fun x => ?_)
        clear hK K
        simp only [List.drop_succ_cons, List.drop_zero]
        have fx := (x.le.frozen (p := ⟨b, k * 3 + 1, none⟩) hb).trans f1
        have cx := (x.le.cell (p := ⟨b, k * 3 + 1, none⟩) hb).trans hc1
        have Hx := Lib.hid x.le
        go_wp2_with fail
        obtain ⟨w4, hw4⟩ : ∃ w4, w4 = x.wd.setCell ⟨b, k * 3 + 1, none⟩ (.string (s.extract 0 n)) := ⟨_, rfl⟩
        have g4 : w4.cell? ⟨br, 4, none⟩ = some (.slice (some ⟨b, 0, none⟩) d.files.length c) := by rw [hw4, World.cell?_setCell_far _ _ _ _ hbb]; exact (x.le.cell (p := ⟨br, 4, none⟩) hbr2).trans c4
        have g2 : w4.cell? ⟨b, k * 3 + 2, none⟩ = some (.int .i64 n) := by rw [hw4]; refine (World.cell?_setCell_other _ _ _ _ (by simp)).trans ?_; exact (x.le.cell (p := ⟨b, k * 3 + 2, none⟩) hb).trans hc2
        have gf : w4.frozen? ⟨b, k * 3 + 2, none⟩ = false := by rw [hw4]; simp; exact (x.le.frozen (p := ⟨b, k * 3 + 2, none⟩) hb).trans f2
        rw [← hw4]
        have HW4 := Lib.hid hw4
        clear hw4 fx cx hc1 hc2 f1 f2 c4
        go_wp2_with fail
        have Htwo := Lib.hid (Hrow.out.two Hx.out hlt' (s.extract 0 n) n)
        rw [cutTo_at keep k d.files hlt, ← Hcut.out, Hset.out, ← HW4.out] at Htwo
        go_roundw
        case rel => exact ⟨k + 1, by go_num, by omega, Htwo.out.1, Hch.out.trans (Htwo.out.2.mono fun _ _ e => by rw [e]; rfl)⟩
        case measure => simp [intOf]; omega
    · obtain rfl : k = d.files.length := by omega
      have hend : OwnF wr 0 (.slice x d.files.length c) (cutL keep 0 d.files) := by rw [← cutTo_end]; exact Hrow.out
      have hok := H.out.ok.crashed keep
      have hfin : RefIn wr F br (.slice x d.files.length c) vk false nf (d.crashed keep) := by
        have hsub : Chg (fun k => k = br ∨ (Value.slice x d.files.length c).ownBlock = some k) w wr := (Hc1.out.mono fun _ _ e => .inl e).trans (Hch.out.mono fun _ _ e => .inr e)
        refine ⟨Hbk.out, ?_, H.out.kept.chg hsub ?_, H.out.fr, H.out.fl, H.out.fk, hok, fun k e => Nat.lt_of_lt_of_le (H.out.lt k e) hsub.size⟩
        · show OwnF wr 0 _ (cutL keep 0 d.files)
          exact hend
        · rintro k e (x | x)
          · subst x; exact (OwnI.ne_blk H.out.kept H.out.blk) e
          · exact H.out.kept.ne_row H.out.row e x
      have Hfin := Lib.hid hfin
      clear hend hok hfin
      go_wp2_with fail
      go_ret
      exact ⟨rfl, Hfin.out, (Hc1.out.mono fun _ _ e => .inl e).trans (Hch.out.mono fun _ _ e => .inr e)⟩
end
end Go.Proofs.Ytenbgfejonokdaa

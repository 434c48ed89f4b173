/- An edit of a tablet, by the document, walked: tables laid. -/
import Derived.Test.YtenbgfejonokdaaRefTab2
import Derived.Test.YtenbgfejonokdaaEdSwap
namespace Go.Proofs.Ytenbgfejonokdaa
set_option linter.unusedSimpArgs false
set_option linter.unusedVariables false
set_option maxRecDepth 100000
open Go.RowKit
attribute [local go_sem ↓] Go.wp_at_zero Go.wp_at_succ

theorem nextR_succ (next : Int) (l : List Int) (k : Nat) (hk : k < l.length) : Ed.nextR next (l.take (k + 1)) = max (Ed.nextR next (l.take k)) (wrap64 (l[k] + 1)) := by
  unfold Ed.nextR
  rw [List.take_succ_eq_append_getElem hk, List.foldl_append]
  rfl
set_option maxHeartbeats 8000000 in
theorem tablet_swap {w : World} {B sb tb cap : Nat} {raw : List (ByteArray × Value)} {s : Ed.St} {tv0 : Value} {e : Ed.Edit} {fv : Value} {i : Nat} (h : RPre w B sb tb cap raw s tv0 e fv i) (hk : e.kind = 2) :
    Calls Try.prog 99 #[.pointer (some ⟨sb, 0, none⟩), stV tv0 s.log s.next, edV e fv] w (RTPost w B sb (Ed.doesR s e)) := by
  have hf := h.file
  have HOLD := Lib.hid h.old
  have hfew2 := h.fewf
  have HH := Lib.hid h
  obtain ⟨w1, hw1⟩ : ∃ w1, w1 = (w.alloc (.cells #[tv0, .int .i64 s.log, .int .i64 s.next] 67 (0, 0))).alloc (.cells #[.int .i64 e.kind, .int .i64 e.at_, .int .i64 e.file, fv, .string e.key] 74 (0, 0)) := ⟨_, rfl⟩
  obtain ⟨k1, k2, kb⟩ := two_allocs w _ _ _ _ w1 hw1
  have hp := h.below kb
  have hlt := h.lt
  obtain ⟨x0, c0, htv0, hel0⟩ := h.rd
  obtain ⟨b0, o0, ov, rfl, hb0, _, d0, d1, hov, hovc⟩ := hel0 i h.il
  obtain ⟨ot, hot⟩ : ∃ ot, ∀ h2 : i < s.l.length, s.l[i].tabs = ot := ⟨(s.l[i]'h.il).tabs, fun _ => rfl⟩
  rw [hot] at hov
  have HOT := Lib.hid hot
  have HTL := Lib.hid (show ot.length ≤ 128 by rw [← hot h.il]; exact (h.valid.each i h.il).2.2.2)
  have hat := h.at_
  have hil := h.il
  have hfew := h.valid.few
  have hcapl := h.capl
  have hcapm := h.capm
  obtain ⟨R, hR⟩ : ∃ R, R = Ed.doesR s e := ⟨_, rfl⟩
  rw [← hR]
  have HR := Lib.hid hR
  obtain ⟨l, log, next⟩ := s
  obtain ⟨kind, at_, file, files, key⟩ := e
  simp only at hw1 k1 k2 hat hil hfew hk d1 hov htv0 hcapl HR hR
  subst hat hk
  obtain ⟨n, hn⟩ : ∃ n, n = l.length := ⟨_, rfl⟩
  rw [← hn] at hil htv0 hcapl hfew
  subst htv0
  have HN := Lib.hid hn

  have e5 := (kb.cell (p := ⟨b0, o0 + i * 2 + 1, none⟩) (Nat.lt_of_lt_of_le hb0 hlt.1)).trans d1
  have HOV := Lib.hid ((RdIB.rd hov).below kb)
  have HOC := Lib.hid hovc
  have HOVB := Lib.hid (RdIB.below hov kb)
  obtain ⟨ox, on, oc, hovv, _⟩ := hovc
  subst hovv
  obtain ⟨a0, a1, a2, _⟩ := blk3 k1
  obtain ⟨e0, e1, e2, e3, e4⟩ := blk5 k2
  obtain ⟨s0, s1, s2, sf0, sf1, sf2⟩ := blk3 hp.blk
  simp only at s0 s1 s2
  rw [← hn] at s0
  have HW := Lib.hid hw1
  have HP := Lib.hid hp
  have HB := Lib.hid kb
  have HK1 := Lib.hid k1
  have HK2 := Lib.hid k2
  have HLT := Lib.hid hlt
  obtain ⟨fx, fc, rfl, _⟩ := h.files.rd.form
  obtain ⟨p, hpp⟩ : ∃ p, p = w.heap.size := ⟨_, rfl⟩
  have HPP := Lib.hid hpp
  have hi0 : (0 : Int) ≤ i := by omega
  have hi1 : (i : Int) < n := by omega
  rw [hw1] at a0 a1 a2 e0 e1 e2 e3 e4 e5 s0 s1 s2 sf0 sf1 sf2
  unfold stV edV
  try dsimp only
  clear h hp hlt hel0 hb0 hot d0 d1 hov hR hn kb k1 k2 hw1 hpp
  go_enter Try.func99, Try.ntmps99
  simp only at hf hfew2
  have HDS := Lib.hid (doesR_swap (s := ⟨l, log, next⟩) (e := ⟨2, i, file, files, key⟩) (i := i) rfl rfl (by show i < l.length; rw [← HN.out]; exact hil))
  simp only [HOT.out] at HDS
  go_wp2_with fail
  rw [← HW.out]
  have HFL := Lib.hid HP.out.files
  have HBS0 := Lib.hid (show Blk w1 sb 67 #[.slice (some ⟨tb, 0, none⟩) n cap, .int .i64 log, .int .i64 next] by have := HP.out.blk; rw [HN.out]; exact this)
  have hsp : sb ≠ w.heap.size := by have := HLT.out; omega
  have hsp2 : sb ≠ w.heap.size + 1 := by have := HLT.out; omega
  clear s0 s1 s2 sf0 sf1 sf2 a0 a1 a2 e0 e1 e2 e3 e4 e5
  go_loopw [8] (fun v8 wr => ∃ (k : Nat) (nx : Int), v8 = .int .i64 k ∧ k ≤ files.length ∧ nx = Ed.nextR next (files.take k) ∧ Chg (fun g => g = sb) w1 wr ∧ Blk wr sb 67 #[.slice (some ⟨tb, 0, none⟩) n cap, .int .i64 log, .int .i64 nx] ∧ ∀ (j : Nat) (hj : j < files.length), j < k → files[j] < next → files[j] ∈ ot) (fun v8 _ => files.length - (intOf v8).toNat)
  case atStart => exact ⟨0, next, rfl, Nat.zero_le _, rfl, Chg.refl _ _, HBS0.out, fun j _ hj => absurd hj (by omega)⟩
  case round =>
    obtain ⟨k, nx, rfl, hk, hnx, hcr, hbs, hsm⟩ := hrel
    have Hsm := Lib.hid hsm
    have HCr := Lib.hid hcr
    have HBSr := Lib.hid hbs
    have HNX := Lib.hid hnx
    have hzr := hcr.size
    have HK1r := Lib.hid (HK1.out.chg hcr (by omega))
    have HK2r := Lib.hid (HK2.out.chg hcr (by omega))
    have HFLr := Lib.hid (HFL.out.chg hcr (fun g e => by have := HLT.out; omega))
    have HOVr := Lib.hid (HOVB.out.chg hcr (fun g e => by have := HLT.out; omega))
    obtain ⟨s0, s1, s2, sf0, sf1, sf2⟩ := blk3 hbs
    obtain ⟨a0, a1, a2, _⟩ := blk3 HK1r.out
    obtain ⟨_, e1, e2, e3, e4⟩ := blk5 HK2r.out
    have HBr := Lib.hid (show Below B w wr from (HB.out.mono HLT.out.1).trans (hcr.below (by have := HLT.out; have := HB.out.size; omega) (fun g hg e => by have := HLT.out; omega)))
    clear hsm hcr hbs hnx
    by_cases hlt : k < files.length
    · obtain ⟨x, c, ex, hfc⟩ := HFLr.out.rd.form
      obtain ⟨fb, foff, hx, hfb, f0⟩ := hfc k hlt
      injection ex with ex1 ex2 ex3
      rw [← ex1] at hx
      subst hx ex3
      obtain ⟨f, hff⟩ : ∃ f, f = files[k] := ⟨_, rfl⟩
      rw [← hff] at f0
      have Hn := Lib.hid hff
      clear hff hfc ex1
      by_cases hnn : f < next
      · have HIN := Lib.hid (fun (m : Nat) => refIn_any (.slice ox on oc) ot f (wr.drewN m) (HOVr.out.rd.below (below_drewN (Below.refl _ _) m)) (by have := HTL.out; omega))
        by_cases hin : f ∈ ot
        · have Hin := Lib.hid hin
          have HIN2 := Lib.hid (fun (m : Nat) => (HIN.out m).mono fun e w' ⟨he, hw⟩ => (⟨by rw [he, decide_eq_true hin], hw.symm⟩ : e = Ending.returned (.bool true) ∧ w' = wr.drewN m))
          clear hin HIN
          go_wp2_with fail
          go_quiet ((go_at_call 126; exact Calls.quiet_of_same (HIN2.out _)))
          go_wp2_with fail
          obtain ⟨W1, hW1⟩ : ∃ W1, W1 = wr.drewN nq := ⟨_, rfl⟩
          rw [← hW1]
          have HW1 := Lib.hid (show Below wr.heap.size wr W1 by rw [hW1]; exact below_drewN (Below.refl _ _) nq)
          have HBS := Lib.hid (HBSr.out.below HW1.out)
          rw [show wr.cell? = W1.cell? by rw [hW1]; rfl] at s0 s1 s2 a0 a1 a2 e1 e2 e3 e4 f0
          rw [show wr.frozen? = W1.frozen? by rw [hW1]; rfl] at sf0 sf1 sf2
          clear hW1
          refine wp_region_ext_tail 14 (by kernel_rfl) (by kernel_rfl) fun K hK => ?_
          simp only [List.take_succ_cons, List.take_zero]
          repeat (go_big_quiet_step (fail))
          refine wpQuiet_nil (hK _ fun x => ?_)
          clear hK K
          simp only [List.drop_succ_cons, List.drop_zero]
          have hBx := HBS.out.ext x
          have HBx := Lib.hid hBx
          obtain ⟨_, _, y2, _, _, y2f⟩ := blk3 hBx
          have HX2 := Lib.hid x.le
          clear hBx s0 s1 s2 sf0 sf1 sf2 a0 a1 a2 e1 e2 e3 e4
          go_wp2_with fail
          obtain ⟨wD, hwD⟩ : ∃ wD, wD = x.wd.setCell ⟨sb, 2, none⟩ (.int .i64 (max nx (wrap64 (f + 1)))) := ⟨_, rfl⟩
          rw [← hwD]
          have HD1 := Lib.hid (show Chg (fun g => g = sb) W1 wD by rw [hwD]; exact (Chg.of_below HX2.out).setCell (S := fun g => g = sb) (fun _ => rfl) _)
          have HBD := Lib.hid (show Blk wD sb 67 #[.slice (some ⟨tb, 0, none⟩) n cap, .int .i64 log, .int .i64 (max nx (wrap64 (f + 1)))] by rw [hwD]; exact HBx.out.set 2 _)
          clear hwD y2 y2f
          go_roundw
          case rel => exact ⟨k + 1, _, by go_num, by omega, by rw [nextR_succ _ _ _ hlt, ← Hn.out, ← HNX.out], (HCr.out.trans (Chg.of_below HW1.out)).trans HD1.out, HBD.out, fun j hj hjk hl2 => (by
            by_cases e : j < k
            · exact Hsm.out j hj e hl2
            · obtain rfl : j = k := by omega
              rw [← Hn.out] at hl2 ⊢
              first
                | exact Hin.out
                | omega)⟩
          case measure => simp [intOf]; omega
        · have Hin := Lib.hid hin
          have HIN2 := Lib.hid (fun (m : Nat) => (HIN.out m).mono fun e w' ⟨he, hw⟩ => (⟨by rw [he, decide_eq_false hin], hw.symm⟩ : e = Ending.returned (.bool false) ∧ w' = wr.drewN m))
          have HD := Lib.hid (show R = none from HR.out.trans (HDS.out.2 fun h => Hin.out (by have := h f (by rw [Hn.out]; exact List.getElem_mem hlt) hnn; exact this)))
          clear hin HIN
          go_wp2_with fail
          go_quiet ((go_at_call 126; exact Calls.quiet_of_same (HIN2.out _)))
          go_wp2_with fail
          go_ret
          refine ⟨?_, ?_⟩
          · exact below_drewN HBr.out _
          · rw [HD.out]
            exact rfl
      · have hnn' : ¬ f < next := hnn
        have g := decide_eq_false hnn'
        go_wp2_with fail
        go_quiet (fail)
        go_wp2_with fail
        obtain ⟨W1, hW1⟩ : ∃ W1, W1 = wr.drewN nq := ⟨_, rfl⟩
        rw [← hW1]
        have HW1 := Lib.hid (show Below wr.heap.size wr W1 by rw [hW1]; exact below_drewN (Below.refl _ _) nq)
        have HBS := Lib.hid (HBSr.out.below HW1.out)
        rw [show wr.cell? = W1.cell? by rw [hW1]; rfl] at s0 s1 s2 a0 a1 a2 e1 e2 e3 e4 f0
        rw [show wr.frozen? = W1.frozen? by rw [hW1]; rfl] at sf0 sf1 sf2
        clear hW1
        refine wp_region_ext_tail 14 (by kernel_rfl) (by kernel_rfl) fun K hK => ?_
        simp only [List.take_succ_cons, List.take_zero]
        repeat (go_big_quiet_step (fail))
        refine wpQuiet_nil (hK _ fun x => ?_)
        clear hK K
        simp only [List.drop_succ_cons, List.drop_zero]
        have hBx := HBS.out.ext x
        have HBx := Lib.hid hBx
        obtain ⟨_, _, y2, _, _, y2f⟩ := blk3 hBx
        have HX2 := Lib.hid x.le
        clear hBx s0 s1 s2 sf0 sf1 sf2 a0 a1 a2 e1 e2 e3 e4
        go_wp2_with fail
        obtain ⟨wD, hwD⟩ : ∃ wD, wD = x.wd.setCell ⟨sb, 2, none⟩ (.int .i64 (max nx (wrap64 (f + 1)))) := ⟨_, rfl⟩
        rw [← hwD]
        have HD1 := Lib.hid (show Chg (fun g => g = sb) W1 wD by rw [hwD]; exact (Chg.of_below HX2.out).setCell (S := fun g => g = sb) (fun _ => rfl) _)
        have HBD := Lib.hid (show Blk wD sb 67 #[.slice (some ⟨tb, 0, none⟩) n cap, .int .i64 log, .int .i64 (max nx (wrap64 (f + 1)))] by rw [hwD]; exact HBx.out.set 2 _)
        clear hwD y2 y2f
        go_roundw
        case rel => exact ⟨k + 1, _, by go_num, by omega, by rw [nextR_succ _ _ _ hlt, ← Hn.out, ← HNX.out], (HCr.out.trans (Chg.of_below HW1.out)).trans HD1.out, HBD.out, fun j hj hjk hl2 => (by
          by_cases e : j < k
          · exact Hsm.out j hj e hl2
          · obtain rfl : j = k := by omega
            rw [← Hn.out] at hl2 ⊢
            first
              | exact Hin.out
              | omega)⟩
        case measure => simp [intOf]; omega
    · obtain rfl : k = files.length := by omega
      have HD := Lib.hid (show R = some ⟨setTabs l i files, log, nx⟩ by
        rw [HR.out, HDS.out.1 fun m hm hl2 => by
          obtain ⟨j, hj, rfl⟩ := List.mem_iff_getElem.1 hm
          exact Hsm.out j hj hj hl2]
        rw [HNX.out, List.take_length])
      have hlr : raw.length = l.length := HP.out.own.len
      have hln : l.length = n := HN.out.symm
      have hir : i < raw.length := by omega
      have HTB := Lib.hid (show RowAt wr tb (cellsT raw) from HP.out.own.row.chg HCr.out (by have := HLT.out; omega))
      have hl1 := HLT.out
      have hzw := HB.out.size
      have HFR := Lib.hid HFLr.out.rd
      clear HR HDS Hsm
      go_wp2_with fail
      refine wp_region_two (T := fun W => T8 w.heap.size i file (.slice fx files.length fc) key W ∧ W.cell? ⟨sb, 0, none⟩ = some (.slice (some ⟨tb, 0, none⟩) n cap)) (S := fun _ => True) (n := 11) (by kernel_rfl) ?_
      obtain ⟨x0, hx0⟩ : ∃ x0, x0 = wr.drew := ⟨_, rfl⟩
      rw [← hx0]
      have hb0 : Below wr.heap.size wr x0 := by rw [hx0]; exact (Below.refl _ _).drew
      have hlp := HK2r.out.lt
      have hls := HBSr.out.lt
      have hT : T8 w.heap.size i file (.slice fx files.length fc) key x0 ∧ x0.cell? ⟨sb, 0, none⟩ = some (.slice (some ⟨tb, 0, none⟩) n cap) := ⟨T8.below ⟨e1, e2, e3, e4⟩ hb0 hlp, (hb0.cell (p := ⟨sb, 0, none⟩) hls).trans s0⟩
      have hS : True := trivial
      have HB0 := Lib.hid hb0
      have HFR0 := Lib.hid (HFR.out.below hb0)
      have hz0 := hb0.size
      clear s0 s1 s2 sf0 sf1 sf2 a0 a1 a2 e1 e2 e3 e4 hx0 hb0
      refine two_takeT 0 (some 96) (v := ?_) rfl rfl (by kernel_rfl) (by kernel_rfl) (by kernel_rfl) (by decide) (fun _ _ _ h => h) (Or.inl ⟨by rfl, ?hy0⟩) hT hS ?_
      case hy0 => (intro w' hT'; (try unfold T8 at hT'); go_simp; (try with_reducible rfl))
      try simp only [Act.put, List.setIfInBounds_toArray, List.set_cons_zero, List.set_cons_succ]
      refine two_takeT 1 (some 97) (v := ?_) rfl rfl (by kernel_rfl) (by kernel_rfl) (by kernel_rfl) (by decide) (fun _ _ _ h => h) (Or.inl ⟨by rfl, ?hy1⟩) hT hS ?_
      case hy1 => (intro w' hT'; (try unfold T8 at hT'); go_simp; (try with_reducible rfl))
      try simp only [Act.put, List.setIfInBounds_toArray, List.set_cons_zero, List.set_cons_succ]
      refine two_takeT 2 (some 98) (v := ?_) rfl rfl (by kernel_rfl) (by kernel_rfl) (by kernel_rfl) (by decide) (fun _ _ _ h => h) (Or.inl ⟨by rfl, ?hy2⟩) hT hS ?_
      case hy2 => (intro w' hT'; (try unfold T8 at hT'); go_simp; (try with_reducible rfl))
      try simp only [Act.put, List.setIfInBounds_toArray, List.set_cons_zero, List.set_cons_succ]
      refine two_takeT 3 (some 99) (v := ?_) rfl rfl (by kernel_rfl) (by kernel_rfl) (by kernel_rfl) (by decide) (fun _ _ _ h => h) (Or.inl ⟨by rfl, ?hy3⟩) hT hS ?_
      case hy3 => (intro w' hT'; (try unfold T8 at hT'); go_simp; (try with_reducible rfl))
      try simp only [Act.put, List.setIfInBounds_toArray, List.set_cons_zero, List.set_cons_succ]
      refine two_takeT 4 (some 100) (v := ?_) rfl rfl (by kernel_rfl) (by kernel_rfl) (by kernel_rfl) (by decide) (fun _ _ _ h => h) (Or.inl ⟨by rfl, ?hy4⟩) hT hS ?_
      case hy4 => (intro w' hT'; (try unfold T8 at hT'); go_simp; (try with_reducible rfl))
      try simp only [Act.put, List.setIfInBounds_toArray, List.set_cons_zero, List.set_cons_succ]
      refine two_takeT 5 (some 101) (v := ?_) rfl rfl (by kernel_rfl) (by kernel_rfl) (by kernel_rfl) (by decide) (fun _ _ _ h => h) (Or.inl ⟨by rfl, ?hy5⟩) hT hS ?_
      case hy5 => (intro w' hT'; (try unfold T8 at hT'); go_simp; (try with_reducible rfl))
      try simp only [Act.put, List.setIfInBounds_toArray, List.set_cons_zero, List.set_cons_succ]
      refine two_takeT 6 (some 102) (v := ?_) rfl rfl (by kernel_rfl) (by kernel_rfl) (by kernel_rfl) (by decide) (fun _ _ _ h => h) (Or.inl ⟨by rfl, ?hy6⟩) hT hS ?_
      case hy6 => (intro w' hT'; (try unfold T8 at hT'); go_simp; (try with_reducible rfl))
      try simp only [Act.put, List.setIfInBounds_toArray, List.set_cons_zero, List.set_cons_succ]
      refine two_takeT 7 (some 103) (v := ?_) rfl rfl (by kernel_rfl) (by kernel_rfl) (by kernel_rfl) (by decide) (fun _ _ _ h => h) (Or.inl ⟨by rfl, ?hy7⟩) hT hS ?_
      case hy7 => (intro w' hT'; (try unfold T8 at hT'); go_simp; (try with_reducible rfl))
      try simp only [Act.put, List.setIfInBounds_toArray, List.set_cons_zero, List.set_cons_succ]
      refine two_one 8 rfl (by kernel_rfl) ?_
      intro K hK
      refine step_append_ints rfl (.const (.slice none 0 0)) (.tmp 103) (by rfl) x0.heap.size (.slice none 0 0) [] (by rfl) (OwnI.nil _ _) (.slice fx files.length fc) files (by rfl) HFR0.out (by simp; omega) (Nat.le_refl _) ?_
      intro u2 x2 ho2 hg2 _
      rw [List.nil_append] at ho2
      have hb2 : Below x0.heap.size x0 x2 := (Below.refl _ _).grown hg2 (Nat.le_refl _) (fun g hg => by cases hg)
      obtain ⟨ux, uc, hu2, _⟩ := ho2.rd.form
      obtain ⟨un, hun⟩ : ∃ un, un = files.length := ⟨_, rfl⟩
      rw [← hun] at hu2
      subst hu2
      have hT1 : T8 w.heap.size i file (.slice fx files.length fc) key x2 ∧ x2.cell? ⟨sb, 0, none⟩ = some (.slice (some ⟨tb, 0, none⟩) n cap) := ⟨hT.1.below hb2 (by omega), (hb2.cell (p := ⟨sb, 0, none⟩) (by show sb < _; omega)).trans hT.2⟩
      refine hK.out _ _ hT1 (fun _ _ => hS) ?_
      have HB2 := Lib.hid (HB0.out.trans (hb2.mono HB0.out.size))
      have HO2 := Lib.hid ho2
      have HTB2 := Lib.hid (HTB.out.below HB2.out)
      have HBS2 := Lib.hid (HBSr.out.below HB2.out)
      have hz2 := hb2.size
      clear hK K hT ho2 hg2 hun hb2
      have hT := hT1
      clear hT1
      try simp only [Act.put, List.setIfInBounds_toArray, List.set_cons_zero, List.set_cons_succ]
      refine two_takeT 9 (some 105) (v := ?_) rfl rfl (by kernel_rfl) (by kernel_rfl) (by kernel_rfl) (by decide) (fun _ _ _ h => h) (Or.inl ⟨by rfl, ?hy9⟩) hT hS ?_
      case hy9 => (intro w' hT'; (try unfold T8 at hT'); go_simp; (try with_reducible rfl))
      try simp only [Act.put, List.setIfInBounds_toArray, List.set_cons_zero, List.set_cons_succ]
      refine two_takeT 10 (some 106) (v := ?_) rfl rfl (by kernel_rfl) (by kernel_rfl) (by kernel_rfl) (by decide) (fun _ _ _ h => h) (Or.inl ⟨by rfl, ?hy10⟩) hT hS ?_
      case hy10 => (intro w' hT'; (try unfold T8 at hT'); go_simp; (try with_reducible rfl))
      try simp only [Act.put, List.setIfInBounds_toArray, List.set_cons_zero, List.set_cons_succ]
      have c3 := HTB2.out.cell (i * 2 + 1) (by rw [cellsT_length]; omega)
      have f3 := HTB2.out.free (i * 2 + 1) (by rw [cellsT_length]; omega)
      generalize (cellsT raw)[i * 2 + 1]'(by rw [cellsT_length]; omega) = old at c3
      refine two_one 11 rfl (by kernel_rfl) ?_
      intro K hK
      go_simp
      obtain ⟨x3, hx3⟩ : ∃ x3, x3 = x2.setCell ⟨tb, i * 2 + 1, none⟩ (.slice ux un uc) := ⟨_, rfl⟩
      rw [← hx3]
      have hR3 : RowAt x3 tb (cellsT (raw.set i (raw[i].1, .slice ux un uc))) := by
        rw [hx3, ← cellsT_set1 raw i hir]
        exact HTB2.out.set (i * 2 + 1) (by rw [cellsT_length]; omega) _
      have hC3 : Chg (fun g => g = tb) x2 x3 := by rw [hx3]; exact Chg.setCell (S := fun g => g = tb) (Chg.refl _ _) (fun _ => rfl) _
      have hne : ¬ sb = tb := hl1.2.2.2.2.2
      have HB3 := Lib.hid (HBS2.out.chg hC3 hne)
      have hT1 : T8 w.heap.size i file (.slice fx files.length fc) key x3 ∧ x3.cell? ⟨sb, 0, none⟩ = some (.slice (some ⟨tb, 0, none⟩) n cap) := ⟨hT.1.chg hC3 (by omega) (by omega), (hC3.cell (p := ⟨sb, 0, none⟩) (by show sb < _; omega) hne).trans hT.2⟩
      refine hK.out _ _ hT1 (fun _ e => absurd rfl e) ?_
      refine two_done (by kernel_rfl) ?_ _
      have HALL := Lib.hid (show Chg (fun g => g = tb ∨ g = sb) w1 x3 from (HCr.out.mono fun k _ h => .inr h).trans ((Chg.of_below HB2.out).trans (hC3.mono fun k _ h => .inl h)))
      have HVO := Lib.hid (show OwnI x3 x0.heap.size (.slice ux un uc) files from HO2.out.chg hC3 fun g hg e => by have := ((World.ownsRow.lt HO2.out) g hg).1; omega)
      have HRD := Lib.hid (HP.out.lay HALL.out hir (fun g h => by
        rcases h with h | h
        · exact .inl h
        · exact .inr (.inl h)) hR3 (HVO.out.rdn (fun g hg e => by have := ((World.ownsRow.lt HVO.out) g hg).1; omega)) HO2.out.cap cap)
      have HBF := Lib.hid (show Below B w x3 from (HB.out.mono HLT.out.1).trans (HALL.out.below (by have := HLT.out.1; have := HB.out.size; omega) (fun g hg e => by omega)))
      clear hK K hT hS hT1 hx3 hR3 hC3 c3 f3
      go_wp2_with fail
      go_ret
      refine ⟨HBF.out, ?_⟩
      rw [HD.out]
      refine ⟨rfl, _, HB3.out, ?_⟩
      have := HRD.out
      rw [show (⟨l, log, next⟩ : Ed.St).l.length = n from hln] at this
      exact this
end Go.Proofs.Ytenbgfejonokdaa

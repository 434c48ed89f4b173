/- A tablet's tables laid anew, walked. -/
import Derived.Test.YtcijhhnbhnaiaaaGreatEdTable
import Derived.IntWalk
namespace Go.Proofs.YtcijhhnbhnaiaaaGreat
set_option linter.unusedSimpArgs false
set_option linter.unusedVariables false
set_option maxRecDepth 100000
open Go.RowKit
attribute [local go_sem ↓] Go.wp_at_zero Go.wp_at_succ

open Classical in
/-- What a swap comes to. -/
noncomputable def swapP (s : Ed.St) (i : Nat) (h : i < s.l.length) (files : List Int) : Option Ed.St :=
  if ∀ n ∈ files, n < s.next → n ∈ s.l[i].tabs then some ⟨s.l.set i ⟨s.l[i].frm, files⟩, s.log, match files.getLast? with | none => s.next | some k => max s.next (RowKit.wrap64 (k + 1))⟩ else none
set_option maxHeartbeats 4000000 in
theorem swap_any {w : World} {B sb tb : Nat} {raw : List (ByteArray × Value)} {s : Ed.St} {e : Ed.Edit} {fv : Value} (h : Pre w B sb tb raw s e fv) (i : Nat) (hat : e.at_ = i) (hil : i < s.l.length) :
    Calls Tryz.prog 72 #[.pointer (some ⟨sb, 0, none⟩), edV e fv] w (DoesPost w B sb (swapP s i hil e.files)) := by
  obtain ⟨w1, hw1⟩ : ∃ w1, w1 = w.alloc (.cells #[.int .i64 e.kind, .int .i64 e.at_, .int .i64 e.file, fv, .string e.key] 44 (0, 0)) := ⟨_, rfl⟩
  obtain ⟨hbx, hp, hb⟩ := does_box h w1 hw1
  have hfew := h.few
  have hff := h.fewf
  obtain ⟨R, hR⟩ : ∃ R, R = swapP s i hil e.files := ⟨_, rfl⟩
  rw [← hR]
  have HR := Lib.hid hR
  clear hR
  unfold edV
  obtain ⟨kind, at_, file, files, key⟩ := e
  obtain ⟨l, log, next⟩ := s
  simp only at hat hil hfew hff hbx hw1 HR
  subst hat
  have s0 := hp.blk.cell 0
  have s2 := hp.blk.cell 2
  simp at s0 s2
  have e0 := hbx.cell 0
  have e1 := hbx.cell 1
  have e2 := hbx.cell 2
  have e3 := hbx.cell 3
  have e4 := hbx.cell 4
  simp at e0 e1 e2 e3 e4
  have HW := Lib.hid hw1
  have HP := Lib.hid hp
  have HB := Lib.hid hb
  have HL := Lib.hid h.lt
  have HX := Lib.hid hbx
  obtain ⟨fx, fc, rfl, _⟩ := h.files.rd.form
  have HL0 := Lib.hid (fun (j : Nat) (hj : j < raw.length) (g : Nat) (hg : raw[j].2.ownBlock = some g) => ((World.ownsRow.lt (h.own.each j hj (by have := h.own.len; omega)).2.1) g hg).2)
  clear h hp hb hbx
  rw [hw1] at s0 s2 e0 e1 e2 e3 e4
  clear hw1
  have hi0 : (0 : Int) ≤ i := by omega
  have hi1 : (i : Int) < l.length := by omega
  have hlr : raw.length = l.length := HP.out.own.len
  have hir : i < raw.length := by omega
  go_enter Tryz.func72, Tryz.ntmps72
  go_wp2_with fail
  rw [← HW.out] at s0 s2 e0 e1 e2 e3 e4 ⊢
  go_quiet (fail)
  obtain ⟨wq, hwq⟩ : ∃ wq, wq = w1.drewN nq := ⟨_, rfl⟩
  rw [← hwq]
  have hbq : Below w1.heap.size w1 wq := by rw [hwq]; exact below_drewN (Below.refl _ _) nq
  have HPq := Lib.hid (HP.out.below hbq)
  have HXq := Lib.hid (HX.out.below hbq)
  have HBq := Lib.hid (HB.out.trans (hbq.mono HB.out.size))
  rw [show w1.cell? = wq.cell? by rw [hwq]; rfl] at s0 s2 e0 e1 e2 e3 e4
  clear hbq hwq
  have hrow := HPq.out.own.row.get _ _ (cellsT_get1 raw i hir)
  have hown := (HPq.out.own.each i hir hil).2.1
  obtain ⟨tv, htv⟩ : ∃ tv, tv = raw[i].2 := ⟨_, rfl⟩
  rw [← htv] at hrow hown
  have HTV := Lib.hid htv
  have HOW := Lib.hid hown
  have htl : l[i].tabs.length ≤ 1000 := HPq.out.tabs i hil
  have HCT := Lib.hid (fun x : Int => containsI_any tv l[i].tabs x wq hown.rd (by omega))
  obtain ⟨ts, hts⟩ : ∃ ts, ts = l[i].tabs := ⟨_, rfl⟩
  rw [← hts] at HCT
  have HTS := Lib.hid hts
  clear htv hown htl hts
  go_wp2_with fail
  have HF := Lib.hid HPq.out.files.rd
  go_loop [7, 19] (fun _ v19 => ∃ k : Nat, v19 = .int .i64 k ∧ k ≤ files.length ∧ ∀ (j : Nat) (hj : j < files.length), j < k → files[j] < next → files[j] ∈ ts) (fun _ v19 => files.length - (intOf v19).toNat)
  case atStart => exact ⟨0, rfl, Nat.zero_le _, fun j _ hj => absurd hj (by omega)⟩
  case round =>
    obtain ⟨k, rfl, hk, hsm⟩ := hrel
    have Hsm := Lib.hid hsm
    clear hsm
    by_cases hlt : k < files.length
    · obtain ⟨x, c, ex, hfc⟩ := HF.out.form
      obtain ⟨fb, foff, hx, _, f0⟩ := hfc k hlt
      injection ex with ex1 ex2 ex3
      rw [← ex1] at hx
      subst hx
      obtain ⟨n, hn⟩ : ∃ n, n = files[k] := ⟨_, rfl⟩
      rw [← hn] at f0
      have Hn := Lib.hid hn
      clear hn hfc ex1 ex2 ex3
      by_cases hnn : n < next
      · by_cases hin : n ∈ ts
        · have HC := HCT.out n
          rw [List.contains_iff_mem.2 hin] at HC
          have HC2 := Lib.hid HC
          have Hin := Lib.hid hin
          clear HC hin
          go_wp2_with ((go_at_call 86; refine HC2.out.mono ?_; rintro e w' ⟨rfl, rfl⟩))
          go_round
          case rel => exact ⟨k + 1, by go_num, by omega, fun j hj hjk hlt2 => (by
            by_cases e : j < k
            · exact Hsm.out j hj e hlt2
            · obtain rfl : j = k := by omega
              rw [← Hn.out]; exact Hin.out)⟩
          case measure => simp [intOf]; omega
        · have HC := HCT.out n
          rw [show ts.contains n = false by rw [← Bool.not_eq_true, List.contains_iff_mem]; exact hin] at HC
          have HC2 := Lib.hid HC
          have Hin := Lib.hid hin
          have Hnn := Lib.hid hnn
          clear HC hin
          go_wp2_with ((go_at_call 86; refine HC2.out.mono ?_; rintro e w' ⟨rfl, rfl⟩))
          go_ret
          refine ⟨Chg.of_below HBq.out, ?_⟩
          have : R = none := by
            rw [HR.out]
            unfold swapP
            rw [if_neg]
            intro hall
            have := hall n (by rw [Hn.out]; exact List.getElem_mem hlt) Hnn.out
            rw [← HTS.out] at this
            exact Hin.out this
          rw [this]
          exact rfl
      · have hnn' : ¬ n < next := hnn
        go_wp2_with fail
        go_round
        case rel => exact ⟨k + 1, by go_num, by omega, fun j hj hjk hlt2 => (by
          by_cases e : j < k
          · exact Hsm.out j hj e hlt2
          · obtain rfl : j = k := by omega
            rw [← Hn.out] at hlt2; exact absurd hlt2 hnn')⟩
        case measure => simp [intOf]; omega
    · obtain rfl : k = files.length := by omega
      go_wp2_with fail
      refine (cloneI_any _ files wq HF.out (by omega)).mono ?_
      rintro e wB ⟨v', rfl, ho, hb⟩
      have htbq : tb < wq.heap.size := HPq.out.lt.2.2
      have hsbq : sb < wq.heap.size := HPq.out.lt.2.1
      have hv'n : ∀ g, v'.ownBlock = some g → g ≠ tb ∧ g ≠ sb := fun g hg => by
        have := ((World.ownsRow.lt ho) g hg).1; omega
      have Hv := Lib.hid hv'n
      obtain ⟨x1, c1, hv1, _⟩ := ho.rd.form
      obtain ⟨LN, hLN⟩ : ∃ LN, LN = files.length := ⟨_, rfl⟩
      rw [← hLN] at hv1
      have HPB := Lib.hid (HPq.out.below hb)
      have HXB := Lib.hid (HXq.out.below hb)
      have HBB := Lib.hid (HBq.out.trans (hb.mono HBq.out.size))
      have HO := Lib.hid ho
      have HLN := Lib.hid hLN
      clear ho hb hLN hv'n s0 s2 e0 e1 e2 e3 e4 hrow
      subst hv1
      have c3 := HPB.out.own.row.cell (i * 2 + 1) (by rw [cellsT_length]; omega)
      have f3 := HPB.out.own.row.free (i * 2 + 1) (by rw [cellsT_length]; omega)
      generalize (cellsT raw)[i * 2 + 1]'(by rw [cellsT_length]; omega) = old at c3
      obtain ⟨wC, hwC⟩ : ∃ wC, wC = wB.setCell ⟨tb, i * 2 + 1, none⟩ (.slice x1 LN c1) := ⟨_, rfl⟩
      have hRC : RowAt wC tb (cellsT (raw.set i (raw[i].1, .slice x1 LN c1))) := by
        rw [hwC, ← cellsT_set1 raw i hir]
        exact HPB.out.own.row.set (i * 2 + 1) (by rw [cellsT_length]; omega) _
      have hCC : Chg (fun g => g = tb) wB wC := by rw [hwC]; exact Chg.setCell (S := fun g => g = tb) (Chg.refl _ _) (fun _ => rfl) _
      have hne := HPB.out.ne
      have hlb := HXq.out.lt
      have hneb : w.heap.size ≠ tb := by have := HL.out; omega
      have hnes : sb ≠ w.heap.size := by have := HL.out; omega
      have hBC : Blk wC sb 28 #[.slice (some ⟨tb, 0, none⟩) l.length l.length, .int .i64 log, .int .i64 next] := HPB.out.blk.chg hCC (by show ¬ sb = tb; exact hne)
      have hXC : Blk wC w.heap.size 44 #[.int .i64 kind, .int .i64 i, .int .i64 file, .slice fx files.length fc, .string key] := HXB.out.chg hCC hneb
      have hFC : RdI wC (.slice fx files.length fc) files := (HPB.out.files.chg hCC fun g hg => by rw [show g = tb from hg]; exact HPB.out.own.base).rd
      have hBwC : B ≤ wC.heap.size := Nat.le_trans HPB.out.lt.1 hCC.size
      have HBC := Lib.hid (show Chg (fun g => g = sb ∨ B ≤ g) w wC from (Chg.of_below HBB.out).trans (hCC.mono fun g _ e => .inr (by have := HPB.out.own.base; rw [show g = tb from e]; omega)))
      have Hrd := Lib.hid (show ∀ wD, Chg (fun g => g = sb) wC wD → RdTB wD B (.slice (some ⟨tb, 0, none⟩) l.length l.length) (l.set i ⟨l[i].frm, files⟩) from fun wD hD => by
        have := rdTB_of_row HPB.out.own.base (c := l.length) (l := l.set i ⟨l[i].frm, files⟩) (raw := raw.set i (raw[i].1, .slice x1 LN c1)) (hRC.chg hD (fun e => hne e.symm)) (by rw [List.length_set, List.length_set, hlr]) fun j hj hj' => by
          rw [List.length_set] at hj hj'
          by_cases e : i = j
          · subst e
            rw [List.getElem_set_self, List.getElem_set_self]
            refine ⟨(HPB.out.own.each i hir hil).1, ?_⟩
            exact (((HO.out.base HPq.out.lt.1).chg hCC fun g hg e => (Hv.out g hg).1 e).chg hD fun g hg e => (Hv.out g hg).2 e).rdu
          · rw [List.getElem_set_ne e, List.getElem_set_ne e]
            obtain ⟨h1, h2, h3⟩ := HPB.out.own.each j hj hj'
            exact ⟨h1, ((h2.chg hCC fun g hg e2 => h3 (by rw [hg, show g = tb from e2])).chg hD fun g hg e2 => HPB.out.far j hj (by rw [hg, show g = sb from e2])).rdu⟩
        rw [List.length_set] at this
        exact this)
      have Hall := Lib.hid (show ∀ m ∈ files, m < next → m ∈ l[i].tabs from fun m hm hlt2 => by
        obtain ⟨j, hj, rfl⟩ := List.mem_iff_getElem.1 hm
        rw [← HTS.out]
        exact Hsm.out j hj hj hlt2)
      have z3 := hXC.cell 3
      simp at z3
      have hsb2 := hBC.cell 2
      have hsf2 := hBC.free 2
      simp at hsb2
      rw [hwC] at z3
      by_cases hem : 0 < files.length
      case neg =>
        have hz : ¬ (0 : Int) < files.length := by omega
        go_wp2_with fail
        rw [← hwC]
        go_ret
        refine ⟨HBC.out, ?_⟩
        have : R = some ⟨l.set i ⟨l[i].frm, files⟩, log, next⟩ := by
          rw [HR.out]
          unfold swapP
          rw [if_pos Hall.out]
          have : files = [] := List.length_eq_zero_iff.1 (by omega)
          rw [this]; rfl
        rw [this]
        exact ⟨rfl, _, hBC, Hrd.out wC (Chg.refl _ _)⟩
      case pos =>
        have hz : (0 : Int) < files.length := by omega
        go_wp2_with fail
        rw [← hwC]
        obtain ⟨last, hlast⟩ : ∃ last, last = files[files.length - 1] := ⟨_, rfl⟩
        have HLast := Lib.hid hlast
        obtain ⟨x, c, ex, hfc⟩ := hFC.form
        obtain ⟨fb, foff, hx, _, f0⟩ := hfc (files.length - 1) (by omega)
        injection ex with ex1 ex2 ex3
        rw [← ex1] at hx
        subst hx
        rw [← hlast] at f0
        clear hlast hfc ex1 ex2 ex3
        obtain ⟨m, hm⟩ : ∃ m, files.length = m + 1 := ⟨files.length - 1, by omega⟩
        have hm1 : files.length - 1 = m := by omega
        rw [hm1] at f0
        have z3' := hXC.cell 3
        simp at z3'
        have Hm := Lib.hid hm
        have hm2 : (files.length : Int) - 1 = m := by omega
        have hm3 : IntKind.i64.wrap ((files.length : Int) - 1) = m := by rw [IntKind.wrap_i64]; omega
        have HwC := Lib.hid hwC
        clear z3 hm hwC c3 f3 hm1
        refine wp_region_ext_tail 13 (by kernel_rfl) (by kernel_rfl) fun K hK => ?_
        simp only [List.take_succ_cons, List.take_zero]
        repeat (go_big_quiet_step (fail))
        refine wpQuiet_nil (hK _ fun x => ?_)
        clear hK K
        simp only [List.drop_succ_cons, List.drop_zero]
        have hBx := hBC.ext x
        have y2 := hBx.cell 2
        have y2f := hBx.free 2
        simp at y2
        have HBx := Lib.hid hBx
        have HX2 := Lib.hid x.le
        clear hBx
        go_wp2_with fail
        obtain ⟨wD, hwD⟩ : ∃ wD, wD = x.wd.setCell ⟨sb, 2, none⟩ (.int .i64 (max next (wrap64 (last + 1)))) := ⟨_, rfl⟩
        rw [← hwD]
        have hD : Chg (fun g => g = sb) wC wD := by rw [hwD]; exact (Chg.of_below HX2.out).setCell (S := fun g => g = sb) (fun _ => rfl) _
        have hBD : Blk wD sb 28 #[.slice (some ⟨tb, 0, none⟩) l.length l.length, .int .i64 log, .int .i64 (max next (wrap64 (last + 1)))] := by rw [hwD]; exact HBx.out.set 2 _
        clear hwD
        go_ret
        refine ⟨HBC.out.trans (hD.mono fun g _ e => .inl e), ?_⟩
        have : R = some ⟨l.set i ⟨l[i].frm, files⟩, log, max next (wrap64 (last + 1))⟩ := by
          rw [HR.out]
          unfold swapP
          rw [if_pos Hall.out]
          have e1 : files.getLast? = some last := by
            rw [List.getLast?_eq_getElem?, List.getElem?_eq_getElem (by omega), HLast.out]
          simp only [e1]
        rw [this]
        exact ⟨rfl, _, hBD, Hrd.out wD hD⟩
set_option maxHeartbeats 4000000 in
theorem does_swap {w : World} {B sb tb : Nat} {raw : List (ByteArray × Value)} {s : Ed.St} {e : Ed.Edit} {fv : Value} (h : Pre w B sb tb raw s e fv) (hk : e.kind = 2) (hr : 0 ≤ e.at_ ∧ e.at_ < s.l.length) :
    Calls Tryz.prog 57 #[.pointer (some ⟨sb, 0, none⟩), edV e fv] w (DoesPost w B sb (Ed.doesP s e)) := by
  have hD : Ed.doesP s e = swapP s e.at_.toNat (by omega) e.files := by
    unfold Ed.doesP; rw [if_neg (by omega), dif_pos hr, if_neg (by omega), if_pos hk]; rfl
  have hsw := fun (W : World) (hP : Pre W B sb tb raw s e fv) => swap_any hP e.at_.toNat (by omega) (by omega)
  rw [← hD] at hsw
  clear hD
  obtain ⟨w1, hw1⟩ : ∃ w1, w1 = w.alloc (.cells #[.int .i64 e.kind, .int .i64 e.at_, .int .i64 e.file, fv, .string e.key] 44 (0, 0)) := ⟨_, rfl⟩
  obtain ⟨hbx, hp, hb⟩ := does_box h w1 hw1
  have hf := h.file
  have ha := h.at_
  have hfew := h.few
  obtain ⟨R, hR⟩ : ∃ R, R = Ed.doesP s e := ⟨_, rfl⟩
  rw [← hR]
  have HR := Lib.hid hR
  clear hR
  unfold edV
  obtain ⟨kind, at_, file, files, key⟩ := e
  obtain ⟨l, log, next⟩ := s
  have HSW := Lib.hid hsw
  simp only at hk hr hf ha hfew hbx hw1 HR
  subst hk
  rw [← HR.out] at HSW
  unfold edV at HSW
  simp only at HSW
  clear hsw
  have s0 := hp.blk.cell 0
  have s2 := hp.blk.cell 2
  simp at s0 s2
  have e0 := hbx.cell 0
  have e1 := hbx.cell 1
  have e2 := hbx.cell 2
  have e3 := hbx.cell 3
  have e4 := hbx.cell 4
  simp at e0 e1 e2 e3 e4
  have HW := Lib.hid hw1
  have HP := Lib.hid hp
  have HB := Lib.hid hb
  have HL := Lib.hid h.lt
  have HX := Lib.hid hbx
  obtain ⟨fx, fc, rfl, _⟩ := h.files.rd.form
  have HL0 := Lib.hid (fun (j : Nat) (hj : j < raw.length) (g : Nat) (hg : raw[j].2.ownBlock = some g) => ((World.ownsRow.lt (h.own.each j hj (by have := h.own.len; omega)).2.1) g hg).2)
  clear h hp hb hbx
  rw [hw1] at s0 s2 e0 e1 e2 e3 e4
  clear hw1
  obtain ⟨hr0, hr1⟩ := hr
  obtain ⟨i, rfl⟩ : ∃ i : Nat, at_ = i := ⟨at_.toNat, by omega⟩
  have hil : i < l.length := by omega
  have d0 : decide ((i : Int) < 0) = false := decide_eq_false (by omega)
  have d1 : decide ((l.length : Int) ≤ i) = false := decide_eq_false (by omega)
  have hi0 : (0 : Int) ≤ i := by omega
  go_enter Tryz.func57, Tryz.ntmps57
  go_wp2_with fail
  rw [← HW.out] at s0 s2 e0 e1 e2 e3 e4 ⊢
  go_quiet (fail)
  go_wp2_with fail
  obtain ⟨wq, hwq⟩ : ∃ wq, wq = w1.drewN nq := ⟨_, rfl⟩
  rw [← hwq]
  have hbq : Below w1.heap.size w1 wq := by rw [hwq]; exact below_drewN (Below.refl _ _) nq
  have HPq := Lib.hid (HP.out.below hbq)
  have HXq := Lib.hid (HX.out.below hbq)
  have HBq := Lib.hid (HB.out.trans (hbq.mono HB.out.size))
  rw [show w1.cell? = wq.cell? by rw [hwq]; rfl] at s0 s2 e0 e1 e2 e3 e4
  clear hbq hwq
  go_quiet (fail)
  go_wp2_with fail
  obtain ⟨w2, hw2⟩ : ∃ w2, w2 = wq.drewN nq := ⟨_, rfl⟩
  rw [← hw2]
  have hb2 : Below wq.heap.size wq w2 := by rw [hw2]; exact below_drewN (Below.refl _ _) nq
  have HP2 := Lib.hid (HPq.out.below hb2)
  have hX2 := HXq.out.below hb2
  have HB2 := Lib.hid (HBq.out.trans (hb2.mono HBq.out.size))
  clear hb2 hw2 s0 s2 e0 e1 e2 e3 e4
  have e0 := hX2.cell 0
  have e1 := hX2.cell 1
  have e2 := hX2.cell 2
  have e3 := hX2.cell 3
  have e4 := hX2.cell 4
  simp at e0 e1 e2 e3 e4
  clear hX2
  go_wp2_with fail
  refine (HSW.out w2 HP2.out).mono ?_
  rintro e w3 ⟨hb3, hres⟩
  have HRes := Lib.hid hres
  have Hb3 := Lib.hid ((Chg.of_below HB2.out).trans hb3)
  clear hres hb3
  cases hRR : R with
  | none =>
    have hres := HRes.out
    rw [hRR] at hres
    simp only at hres
    subst hres
    go_wp2_with fail
    go_ret
    refine ⟨Hb3.out, ?_⟩
    rw [hRR]
    exact rfl
  | some s' =>
    have hres := HRes.out
    rw [hRR] at hres
    simp only at hres
    obtain ⟨rfl, tv', hx1, hx2⟩ := hres
    go_wp2_with fail
    go_ret
    refine ⟨Hb3.out, ?_⟩
    rw [hRR]
    exact ⟨rfl, tv', hx1, hx2⟩
end Go.Proofs.YtcijhhnbhnaiaaaGreat

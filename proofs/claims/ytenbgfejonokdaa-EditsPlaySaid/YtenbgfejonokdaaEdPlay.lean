/- Edits one behind the other, by the program and by the document, walked. -/
import Derived.Test.YtenbgfejonokdaaEdOwnB
import Derived.Test.YtenbgfejonokdaaRefApply
import Derived.Test.YtenbgfejonokdaaEdOpen
import Derived.Test.YtenbgfejonokdaaEdLives
import Derived.Test.YtenbgfejonokdaaEdSame
import Derived.Test.YtenbgfejonokdaaEdBehind
namespace Go.Proofs.Ytenbgfejonokdaa
set_option linter.unusedSimpArgs false
set_option linter.unusedVariables false
set_option maxRecDepth 100000
open Go.RowKit
attribute [local go_sem ↓] Go.wp_at_zero Go.wp_at_succ

def apLog (R : Option Ed.St) : Int := match R with | some s => s.log | none => 0
def apNext (R : Option Ed.St) : Int := match R with | some s => s.next | none => 0
def apOk (R : Option Ed.St) : Bool := match R with | some _ => true | none => false
def ApRd (R : Option Ed.St) (B : Nat) (w : World) (v : Value) : Prop := match R with | some s => RdTB w B v s.l | none => True
def ApRdC (R : Option Ed.St) (B : Nat) (w : World) (v : Value) : Prop := match R with | some s => RdTCN w (fun g => g < B) v s.l | none => True
theorem ApRd.chg {R : Option Ed.St} {B : Nat} {w w' : World} {v : Value} {S : Nat → Prop} (h : ApRd R B w v) (x : Chg S w w') (hS : ∀ g, S g → g < B) : ApRd R B w' v := by
  cases R with
  | none => exact trivial
  | some s => exact RdTB.chg h x hS
theorem ApRdC.chg {R : Option Ed.St} {B : Nat} {w w' : World} {v : Value} {S : Nat → Prop} (h : ApRdC R B w v) (x : Chg S w w') (hS : ∀ g, S g → g < B) : ApRdC R B w' v := by
  cases R with
  | none => exact trivial
  | some s => exact RdTCN.chg h x hS
theorem ApRd.below {R : Option Ed.St} {B : Nat} {w w' : World} {v : Value} (h : ApRd R B w v) (x : Below w.heap.size w w') : ApRd R B w' v := h.chg (S := fun _ => False) (Chg.of_below x) (fun _ e => e.elim)
theorem ApRdC.below {R : Option Ed.St} {B : Nat} {w w' : World} {v : Value} (h : ApRdC R B w v) (x : Below w.heap.size w w') : ApRdC R B w' v := h.chg (S := fun _ => False) (Chg.of_below x) (fun _ e => e.elim)
theorem ApRd.weak {R : Option Ed.St} {B B' : Nat} {w : World} {v : Value} (h : ApRd R B w v) (hB : B' ≤ B) : ApRd R B' w v := by
  cases R with
  | none => exact trivial
  | some s => exact RdTB.weak h hB
theorem ApRdC.weak {R : Option Ed.St} {B B' : Nat} {w : World} {v : Value} (h : ApRdC R B w v) (hB : B' ≤ B) : ApRdC R B' w v := by
  cases R with
  | none => exact trivial
  | some s => exact RdTCN.weak h (fun g e => Nat.lt_of_lt_of_le e hB)
theorem applyB_any (tv : Value) (s : Ed.St) (e : Ed.Edit) (fv : Value) (w : World) (h : RdT w tv s.l) (hv : Ed.Valid s) (hfl : RdI w fv e.files) (hok : EdOk e) :
    Calls Try.prog 42 #[stV tv s.log s.next, edV e fv] w fun E w' => ∃ ax an ac, E = .returned (.tuple #[.agg #[.slice ax an ac, .int .i64 (apLog (Ed.applyP s e)), .int .i64 (apNext (Ed.applyP s e))], .bool (apOk (Ed.applyP s e))]) ∧ Below w.heap.size w w' ∧ ApRd (Ed.applyP s e) w.heap.size w' (.slice ax an ac) := by
  refine (apply_any tv s e fv w h (valid_fits hv) hfl hok.files hok.key hok.at_).mono ?_
  rintro E w' ⟨hb, hm⟩
  cases hr : Ed.applyP s e with
  | none => rw [hr] at hm; exact ⟨none, 0, 0, hm, hb, trivial⟩
  | some s2 =>
    rw [hr] at hm
    obtain ⟨t2, rfl, hrd⟩ := hm
    obtain ⟨x, c, rfl, _⟩ := id hrd
    exact ⟨x, _, c, rfl, hb, hrd⟩
theorem refApplyB_any (tv : Value) (s : Ed.St) (e : Ed.Edit) (fv : Value) (w : World) (h : RdTC w tv s.l) (hv : Ed.Valid s) (hfl : RdI w fv e.files) (hok : EdOk e) :
    Calls Try.prog 43 #[stV tv s.log s.next, edV e fv] w fun E w' => ∃ ax an ac, E = .returned (.tuple #[.agg #[.slice ax an ac, .int .i64 (apLog (Ed.applyP s e)), .int .i64 (apNext (Ed.applyP s e))], .bool (apOk (Ed.applyP s e))]) ∧ Below w.heap.size w w' ∧ ApRdC (Ed.applyP s e) w.heap.size w' (.slice ax an ac) := by
  refine (refApply_any tv s e fv w h (valid_fits hv) hfl hok.files hok.key hok.at_).mono ?_
  rintro E w' ⟨hb, hm⟩
  cases hr : Ed.applyP s e with
  | none => rw [hr] at hm; exact ⟨none, 0, 0, hm, hb, trivial⟩
  | some s2 =>
    rw [hr] at hm
    obtain ⟨t2, rfl, hrd⟩ := hm
    obtain ⟨x, c, rfl, _⟩ := id hrd
    exact ⟨x, _, c, rfl, hb, hrd⟩
theorem rdT_len' {w : World} {x : Option Addr} {n c : Nat} {l : List Ed.Tab} (h : RdT w (.slice x n c) l) : n = l.length := by
  obtain ⟨y, d, e, _⟩ := h
  injection e
theorem sameB_me (s : Ed.St) : sameB s s = true := by unfold sameB; simp
set_option maxHeartbeats 2000000 in
theorem walkEditsPlay (x : Value × List Ed.Edit) (w : World) (h1 : EdsIn w x) :
    Calls Try.prog 9 #[x.1] w fun e w' => e = .returned (.bool true) ∧ Below w.heap.size w w' := by
  obtain ⟨lv, l⟩ := x
  obtain ⟨hl, hlm, hbd⟩ := h1
  simp only at hl hlm hbd ⊢
  obtain ⟨lx, lc, rfl, _⟩ := id hl
  have HL := Lib.hid hl
  have HBD' := Lib.hid hbd
  have HBY := Lib.hid (beyond_any _ l 40 w hl hlm (fun j hj => ⟨(hbd j hj).files, (hbd j hj).key⟩))
  obtain ⟨n, hn⟩ : ∃ n, n = l.length := ⟨_, rfl⟩
  rw [← hn] at hlm HL HBY ⊢
  have Hn := Lib.hid hn
  unfold maxLen at hlm
  clear hl hbd hn
  go_enter Try.func9, Try.ntmps9
  go_wp2_with fail
  refine HBY.out.mono ?_
  rintro e w0 ⟨⟨b, rfl, hsm⟩, rfl⟩
  have HSM := Lib.hid hsm
  clear hsm
  by_cases hb1 : b = 1
  · subst hb1
    go_wp2_with fail
    refine (lives_any w).mono ?_
    rintro e w1 ⟨rfl, hb⟩
    go_wp2_with fail
    go_ret
    exact ⟨rfl, hb⟩
  have hbf : (b == 1) = false := beq_eq_false_iff_ne.2 hb1
  rw [hbf]
  have HS := Lib.hid (HSM.out hb1)
  clear hb1 hbf
  have hll : n ≤ 40 := by have := HS.out.1; rw [← Hn.out] at this; omega
  have HOK := Lib.hid (fun (j : Nat) (hj : j < l.length) => (HBD'.out j hj).ok (HS.out.2 j hj).1)
  go_wp2_with fail
  refine (first_any w).mono ?_
  rintro e w1 ⟨tv, rfl, hrd, hb1⟩
  obtain ⟨x1, c1, rfl, _⟩ := hrd.rd
  have hl1 : st0.l.length = 1 := rfl
  rw [hl1] at hrd ⊢
  have HB1 := Lib.hid hb1
  have HR1 := Lib.hid hrd.rd
  unfold stV
  clear hrd hb1 hl1
  go_wp2_with fail
  obtain ⟨w3, hw3⟩ : ∃ w3, w3 = ((w1.alloc (.cells #[.string ⟨#[]⟩, .slice none 0 0] 70 (0, 0))).alloc (.cells #[.slice x1 1 c1, .int .i64 1, .int .i64 2] 67 (0, 0))).alloc (.cells #[.slice (some ⟨w1.heap.size, 0, none⟩) 1 1, .int .i64 1, .int .i64 2] 67 (0, 0)) := ⟨_, rfl⟩
  obtain ⟨k1, k2, k3, kb, kz⟩ := three_allocs w1 _ _ _ _ _ _ w3 hw3
  rw [← hw3]
  obtain ⟨p3, hp3⟩ : ∃ p3, p3 = w1.heap.size + 1 := ⟨_, rfl⟩
  rw [← hp3] at k2 k3 ⊢
  have HR3 := Lib.hid (HR1.out.below kb)
  have HRC := Lib.hid (show RdTC w3 (.slice (some ⟨w1.heap.size, 0, none⟩) 1 1) st0.l from ⟨_, 1, rfl, fun j hj => by
    obtain rfl : j = 0 := by simp [st0] at hj; omega
    exact ⟨w1.heap.size, 0, .slice none 0 0, rfl, k1.lt, k1.cell 0, k1.cell 1, .inl ⟨none, 0, rfl, rfl⟩, ⟨none, 0, 0, rfl, Nat.le_refl _, Nat.zero_le _⟩⟩⟩)
  have HB3 := Lib.hid (HB1.out.trans (kb.mono HB1.out.size))
  have K3 := Lib.hid k2
  have K4 := Lib.hid k3
  have hwp : w.heap.size < p3 := by have := HB1.out.size; omega
  have hp3w : p3 + 1 < w3.heap.size := k3.lt
  clear hw3 k1 k2 k3 kb kz hp3
  go_loopw [5, 6] (fun v5 v6 wr => ∃ (k : Nat) (st : Ed.St) (d : List Ed.Edit) (fvs : List Value) (sv wv : Value), v6 = .int .i64 k ∧ k ≤ n ∧ OwnEB wr w.heap.size (p3 + 2) v5 fvs d ∧ Blk wr p3 67 #[sv, .int .i64 st.log, .int .i64 st.next] ∧ Blk wr (p3 + 1) 67 #[wv, .int .i64 st.log, .int .i64 st.next] ∧
    RdT wr sv st.l ∧ RdTC wr wv st.l ∧ Ed.Valid st ∧ Ed.allP st0 d = some st ∧ d.length ≤ k ∧ (∀ (j : Nat) (hj : j < d.length), EdOk d[j]) ∧ Below w.heap.size w wr) (fun _ v6 _ => n - (intOf v6).toNat)
  case atStart => exact ⟨0, st0, [], [], _, _, rfl, Nat.zero_le _, OwnEB.nil _ _ _, K3.out, K4.out, HR3.out, HRC.out, (show Ed.Valid st0 from behind_valid []), rfl, Nat.le_refl _, fun j hj => absurd hj (by simp), HB3.out⟩
  case round =>
    obtain ⟨k, st, d, fvs, sv, wv, rfl, hk, hown, hk3, hk4, hrd, hrc, hv, hall, hdl, hdok, hbe⟩ := hrel
    have Hown := Lib.hid hown
    have Hk3 := Lib.hid hk3
    have Hk4 := Lib.hid hk4
    have Hrd := Lib.hid hrd
    have Hrc := Lib.hid hrc
    have Hv := Lib.hid hv
    have Hall := Lib.hid hall
    have Hdl := Lib.hid hdl
    have Hdok := Lib.hid hdok
    have Hbe := Lib.hid hbe
    obtain ⟨sx, sc, hsv, _⟩ := id hrd
    obtain ⟨wx, wc, hwv, _⟩ := id hrc
    obtain ⟨tn, htn⟩ : ∃ tn, tn = st.l.length := ⟨_, rfl⟩
    rw [← htn] at hsv hwv
    have HTN := Lib.hid htn
    subst hsv hwv
    clear hown hk3 hk4 hrd hrc hv hall hdl hdok hbe htn
    have hzr : p3 + 1 < wr.heap.size := Hk4.out.lt
    by_cases hlt : k < n
    · have hkl : k < l.length := by rw [← Hn.out]; exact hlt
      have hll2 := HL.out
      rw [Hn.out] at hll2
      obtain ⟨eb, eo, fv, rfl, heb, hfl, hcell⟩ := hll2.at_ k hkl
      obtain ⟨e, he⟩ : ∃ e, e = l[k] := ⟨_, rfl⟩
      have hok := HOK.out k hkl
      rw [← he] at hfl hcell hok
      obtain ⟨fx, fc, hfv, _⟩ := hfl.form
      obtain ⟨fn, hfn⟩ : ∃ fn, fn = e.files.length := ⟨_, rfl⟩
      rw [← hfn] at hfv
      subst hfv
      have HFL := Lib.hid hfl
      have HOKk := Lib.hid hok
      have HCL := Lib.hid hcell
      obtain ⟨kind, at_, file, files, key⟩ := e
      simp only at HFL HOKk HCL
      obtain ⟨R, hR⟩ : ∃ R, R = Ed.applyP st ⟨kind, at_, file, files, key⟩ := ⟨_, rfl⟩
      have HR := Lib.hid hR
      obtain ⟨rl, hrl⟩ : ∃ rl, rl = apLog R := ⟨_, rfl⟩
      obtain ⟨rn, hrn⟩ : ∃ rn, rn = apNext R := ⟨_, rfl⟩
      obtain ⟨ro, hro⟩ : ∃ ro, ro = apOk R := ⟨_, rfl⟩
      have HAP := Lib.hid (fun (W : World) (hW : Below wr.heap.size wr W) => applyB_any (.slice sx tn sc) st ⟨kind, at_, file, files, key⟩ (.slice fx fn fc) W (Hrd.out.below hW) Hv.out (HFL.out.below (Hbe.out.trans (hW.mono Hbe.out.size))) HOKk.out)
      have HAR := Lib.hid (fun (W : World) (hW : Below wr.heap.size wr W) => refApplyB_any (.slice wx tn wc) st ⟨kind, at_, file, files, key⟩ (.slice fx fn fc) W (Hrc.out.below hW) Hv.out (HFL.out.below (Hbe.out.trans (hW.mono Hbe.out.size))) HOKk.out)
      unfold edV stV at HAP HAR
      simp only [← hR] at HAP HAR
      simp only [← hrl, ← hrn, ← hro] at HAP HAR
      have HRL := Lib.hid hrl
      have HRN := Lib.hid hrn
      have HRO := Lib.hid hro
      have hk0 : (0 : Int) ≤ k := by omega
      have hkn : (k : Int) < n := by omega
      have HKL := Lib.hid hkl
      have hbez := Hbe.out.size
      clear he hfn hfl hok hcell hll2 hR hrl hrn hro
      go_wp2_with fail
      refine wp_region_two (T := fun W => S8 W (p3) (.slice sx tn sc) st.log st.next eb (eo + k * 5) kind at_ file (.slice fx fn fc) key) (S := fun _ => True) (n := 10) (by kernel_rfl) ?_
      obtain ⟨y1, hy1⟩ : ∃ y1, y1 = wr.drew := ⟨_, rfl⟩
      rw [← hy1]
      have hb1 : Below wr.heap.size wr y1 := by rw [hy1]; exact (Below.refl _ _).drew
      have hry : Below wr.heap.size wr wr := Below.refl _ _
      have hb1r : Below wr.heap.size wr y1 := hry.trans (hb1.mono hry.size)
      have hT : S8 y1 (p3) (.slice sx tn sc) st.log st.next eb (eo + k * 5) kind at_ file (.slice fx fn fc) key := by
        obtain ⟨z0, z1, z2, _⟩ := blk3 (Hk3.out.below hb1r)
        exact ⟨⟨z0, z1, z2⟩, HCL.out y1 (Hbe.out.trans (hb1r.mono Hbe.out.size))⟩
      have hS : True := trivial
      have hzy := hb1r.size
      have HT0 := Lib.hid hT
      clear hy1
      refine two_takeT 0 (some 29) (v := ?_) rfl rfl (by kernel_rfl) (by kernel_rfl) (by kernel_rfl) (by decide) (fun _ _ _ h => h) (Or.inl ⟨by rfl, ?hy0⟩) hT hS ?_
      case hy0 => (intro w' hT'; (try unfold T8 at hT'); (try unfold S8 at hT'); go_simp; (try with_reducible rfl))
      try simp only [Act.put, List.setIfInBounds_toArray, List.set_cons_zero, List.set_cons_succ]
      refine two_takeT 1 (some 30) (v := ?_) rfl rfl (by kernel_rfl) (by kernel_rfl) (by kernel_rfl) (by decide) (fun _ _ _ h => h) (Or.inl ⟨by rfl, ?hy1⟩) hT hS ?_
      case hy1 => (intro w' hT'; (try unfold T8 at hT'); (try unfold S8 at hT'); go_simp; (try with_reducible rfl))
      try simp only [Act.put, List.setIfInBounds_toArray, List.set_cons_zero, List.set_cons_succ]
      refine two_takeT 2 (some 31) (v := ?_) rfl rfl (by kernel_rfl) (by kernel_rfl) (by kernel_rfl) (by decide) (fun _ _ _ h => h) (Or.inl ⟨by rfl, ?hy2⟩) hT hS ?_
      case hy2 => (intro w' hT'; (try unfold T8 at hT'); (try unfold S8 at hT'); go_simp; (try with_reducible rfl))
      try simp only [Act.put, List.setIfInBounds_toArray, List.set_cons_zero, List.set_cons_succ]
      refine two_takeT 3 (some 32) (v := ?_) rfl rfl (by kernel_rfl) (by kernel_rfl) (by kernel_rfl) (by decide) (fun _ _ _ h => h) (Or.inl ⟨by rfl, ?hy3⟩) hT hS ?_
      case hy3 => (intro w' hT'; (try unfold T8 at hT'); (try unfold S8 at hT'); go_simp; (try with_reducible rfl))
      try simp only [Act.put, List.setIfInBounds_toArray, List.set_cons_zero, List.set_cons_succ]
      refine two_takeT 4 (some 33) (v := ?_) rfl rfl (by kernel_rfl) (by kernel_rfl) (by kernel_rfl) (by decide) (fun _ _ _ h => h) (Or.inl ⟨by rfl, ?hy4⟩) hT hS ?_
      case hy4 => (intro w' hT'; (try unfold T8 at hT'); (try unfold S8 at hT'); go_simp; (try with_reducible rfl))
      try simp only [Act.put, List.setIfInBounds_toArray, List.set_cons_zero, List.set_cons_succ]
      refine two_two 5 9 rfl rfl (by kernel_rfl) ?_ ?_
      · intro K hK
        go_simp
        refine (HAP.out y1 hb1r).mono ?_
        rintro e y2 ⟨axA, anA, acA, rfl, hb2, har⟩
        have hT1 : S8 y2 (p3) (.slice sx tn sc) st.log st.next eb (eo + k * 5) kind at_ file (.slice fx fn fc) key := S8.below hT hb2 (by omega) (by omega)
        refine hK.out _ _ hT1 (fun _ _ => hS) ?_
        have hz2 := hb2.size
        clear hK K hT
        have hT := hT1
        clear hT1
        try simp only [Act.put, List.setIfInBounds_toArray, List.set_cons_zero, List.set_cons_succ]
        refine two_takeT 6 (some 28) (v := ?_) rfl rfl (by kernel_rfl) (by kernel_rfl) (by kernel_rfl) (by decide) (fun _ _ _ h => h) (Or.inl ⟨by rfl, ?hy6⟩) hT hS ?_
        case hy6 => (intro w' hT'; (try unfold T8 at hT'); (try unfold S8 at hT'); go_simp; (try with_reducible rfl))
        try simp only [Act.put, List.setIfInBounds_toArray, List.set_cons_zero, List.set_cons_succ]
        refine two_takeT 7 (some 35) (v := ?_) rfl rfl (by kernel_rfl) (by kernel_rfl) (by kernel_rfl) (by decide) (fun _ _ _ h => h) (Or.inl ⟨by rfl, ?hy7⟩) hT hS ?_
        case hy7 => (intro w' hT'; (try unfold T8 at hT'); (try unfold S8 at hT'); go_simp; (try with_reducible rfl))
        try simp only [Act.put, List.setIfInBounds_toArray, List.set_cons_zero, List.set_cons_succ]
        refine two_takeT 8 (some 36) (v := ?_) rfl rfl (by kernel_rfl) (by kernel_rfl) (by kernel_rfl) (by decide) (fun _ _ _ h => h) (Or.inl ⟨by rfl, ?hy8⟩) hT hS ?_
        case hy8 => (intro w' hT'; (try unfold T8 at hT'); (try unfold S8 at hT'); go_simp; (try with_reducible rfl))
        try simp only [Act.put, List.setIfInBounds_toArray, List.set_cons_zero, List.set_cons_succ]
        refine two_one 9 rfl (by kernel_rfl) ?_
        intro K hK
        go_simp
        obtain ⟨y3, hy3⟩ : ∃ y3, y3 = y2.alloc (.cells #[.slice none 0 0, .int .i64 0, .int .i64 0] 67 (0, 0)) := ⟨_, rfl⟩
        rw [← hy3]
        obtain ⟨qa, hq⟩ : ∃ q, q = y2.heap.size := ⟨_, rfl⟩
        rw [← hq]
        have hb3 : Below y2.heap.size y2 y3 := by rw [hy3]; exact (Below.refl _ _).alloc (Nat.le_refl _) _
        have hbq : Blk y3 qa 67 #[.slice none 0 0, .int .i64 0, .int .i64 0] := by rw [hq, hy3]; exact Blk.alloc_new _ _ _
        have hT1 : S8 y3 (p3) (.slice sx tn sc) st.log st.next eb (eo + k * 5) kind at_ file (.slice fx fn fc) key := S8.below hT hb3 (by omega) (by omega)
        refine hK.out _ _ hT1 (fun _ _ => hS) ?_
        clear hK K hT hy3
        have hT := hT1
        clear hT1
        try simp only [Act.put, List.setIfInBounds_toArray, List.set_cons_zero, List.set_cons_succ]
        obtain ⟨_, _, _, g0, g1, g2⟩ := blk3 hbq
        have hq2 : y2.heap.size ≤ qa := Nat.le_of_eq hq.symm
        clear hq
        refine two_one 10 rfl (by kernel_rfl) ?_
        intro K hK
        go_simp
        obtain ⟨wa, hy4⟩ : ∃ y4, y4 = ((y3.setCell ⟨qa, 0, none⟩ (.slice axA anA acA)).setCell ⟨qa, 1, none⟩ (.int .i64 rl)).setCell ⟨qa, 2, none⟩ (.int .i64 rn) := ⟨_, rfl⟩
        rw [← hy4]
        obtain ⟨z1, z2⟩ := three_set hbq wa hy4
        have hb4 : Below y2.heap.size y2 wa := hb3.trans (z2.below hb3.size fun g hg e => by omega)
        have hb1z : Below y1.heap.size y1 wa := hb2.trans (hb4.mono hz2)
        have hT1 : S8 wa (p3) (.slice sx tn sc) st.log st.next eb (eo + k * 5) kind at_ file (.slice fx fn fc) key := S8.below HT0.out hb1z (by omega) (by omega)
        refine hK.out _ _ hT1 (fun _ _ => hS) ?_
        have KQA := Lib.hid z1
        have HRA := Lib.hid (ApRd.weak (B' := wr.heap.size) (ApRd.below har hb4) (by omega))
        have HBwa := Lib.hid (show Below wr.heap.size wr wa from hb1r.trans (hb1z.mono hzy))
        have HQAl := Lib.hid (show wr.heap.size ≤ qa by omega)
        have HBab := Lib.hid (show Below wr.heap.size wr wa from hb1.trans (hb1z.mono hb1.size))
        clear hK K hT hy4 z1 z2 hb3 hb4 hbq g0 g1 g2 har hb2 hb1z hb1 hb1r hry
        have hT := hT1
        clear hT1
        try simp only [Act.put, List.setIfInBounds_toArray, List.set_cons_zero, List.set_cons_succ]
        refine two_one 11 rfl (by kernel_rfl) ?_
        intro K hK
        go_simp
        refine hK.out _ _ hT (fun _ _ => hS) ?_
        clear hK K
        try simp only [Act.put, List.setIfInBounds_toArray, List.set_cons_zero, List.set_cons_succ]
        refine two_done (by kernel_rfl) ?_ _
        clear hT hS HT0 hq2 hz2 hzy
        go_wp2_with fail
        refine wp_region_two (T := fun W => S8 W (p3 + 1) (.slice wx tn wc) st.log st.next eb (eo + k * 5) kind at_ file (.slice fx fn fc) key) (S := fun _ => True) (n := 10) (by kernel_rfl) ?_
        obtain ⟨y1, hy1⟩ : ∃ y1, y1 = wa.drew := ⟨_, rfl⟩
        rw [← hy1]
        have hb1 : Below wa.heap.size wa y1 := by rw [hy1]; exact (Below.refl _ _).drew
        have hry : Below wr.heap.size wr wa := HBwa.out
        have hb1r : Below wr.heap.size wr y1 := hry.trans (hb1.mono hry.size)
        have hT : S8 y1 (p3 + 1) (.slice wx tn wc) st.log st.next eb (eo + k * 5) kind at_ file (.slice fx fn fc) key := by
          obtain ⟨z0, z1, z2, _⟩ := blk3 (Hk4.out.below hb1r)
          exact ⟨⟨z0, z1, z2⟩, HCL.out y1 (Hbe.out.trans (hb1r.mono Hbe.out.size))⟩
        have hS : True := trivial
        have hzy := hb1r.size
        have HT0 := Lib.hid hT
        clear hy1
        refine two_takeT 0 (some 38) (v := ?_) rfl rfl (by kernel_rfl) (by kernel_rfl) (by kernel_rfl) (by decide) (fun _ _ _ h => h) (Or.inl ⟨by rfl, ?hy0⟩) hT hS ?_
        case hy0 => (intro w' hT'; (try unfold T8 at hT'); (try unfold S8 at hT'); go_simp; (try with_reducible rfl))
        try simp only [Act.put, List.setIfInBounds_toArray, List.set_cons_zero, List.set_cons_succ]
        refine two_takeT 1 (some 39) (v := ?_) rfl rfl (by kernel_rfl) (by kernel_rfl) (by kernel_rfl) (by decide) (fun _ _ _ h => h) (Or.inl ⟨by rfl, ?hy1⟩) hT hS ?_
        case hy1 => (intro w' hT'; (try unfold T8 at hT'); (try unfold S8 at hT'); go_simp; (try with_reducible rfl))
        try simp only [Act.put, List.setIfInBounds_toArray, List.set_cons_zero, List.set_cons_succ]
        refine two_takeT 2 (some 40) (v := ?_) rfl rfl (by kernel_rfl) (by kernel_rfl) (by kernel_rfl) (by decide) (fun _ _ _ h => h) (Or.inl ⟨by rfl, ?hy2⟩) hT hS ?_
        case hy2 => (intro w' hT'; (try unfold T8 at hT'); (try unfold S8 at hT'); go_simp; (try with_reducible rfl))
        try simp only [Act.put, List.setIfInBounds_toArray, List.set_cons_zero, List.set_cons_succ]
        refine two_takeT 3 (some 41) (v := ?_) rfl rfl (by kernel_rfl) (by kernel_rfl) (by kernel_rfl) (by decide) (fun _ _ _ h => h) (Or.inl ⟨by rfl, ?hy3⟩) hT hS ?_
        case hy3 => (intro w' hT'; (try unfold T8 at hT'); (try unfold S8 at hT'); go_simp; (try with_reducible rfl))
        try simp only [Act.put, List.setIfInBounds_toArray, List.set_cons_zero, List.set_cons_succ]
        refine two_takeT 4 (some 42) (v := ?_) rfl rfl (by kernel_rfl) (by kernel_rfl) (by kernel_rfl) (by decide) (fun _ _ _ h => h) (Or.inl ⟨by rfl, ?hy4⟩) hT hS ?_
        case hy4 => (intro w' hT'; (try unfold T8 at hT'); (try unfold S8 at hT'); go_simp; (try with_reducible rfl))
        try simp only [Act.put, List.setIfInBounds_toArray, List.set_cons_zero, List.set_cons_succ]
        refine two_two 5 9 rfl rfl (by kernel_rfl) ?_ ?_
        · intro K hK
          go_simp
          refine (HAR.out y1 hb1r).mono ?_
          rintro e y2 ⟨axB, anB, acB, rfl, hb2, har⟩
          have hT1 : S8 y2 (p3 + 1) (.slice wx tn wc) st.log st.next eb (eo + k * 5) kind at_ file (.slice fx fn fc) key := S8.below hT hb2 (by omega) (by omega)
          refine hK.out _ _ hT1 (fun _ _ => hS) ?_
          have hz2 := hb2.size
          clear hK K hT
          have hT := hT1
          clear hT1
          try simp only [Act.put, List.setIfInBounds_toArray, List.set_cons_zero, List.set_cons_succ]
          refine two_takeT 6 (some 37) (v := ?_) rfl rfl (by kernel_rfl) (by kernel_rfl) (by kernel_rfl) (by decide) (fun _ _ _ h => h) (Or.inl ⟨by rfl, ?hy6⟩) hT hS ?_
          case hy6 => (intro w' hT'; (try unfold T8 at hT'); (try unfold S8 at hT'); go_simp; (try with_reducible rfl))
          try simp only [Act.put, List.setIfInBounds_toArray, List.set_cons_zero, List.set_cons_succ]
          refine two_takeT 7 (some 44) (v := ?_) rfl rfl (by kernel_rfl) (by kernel_rfl) (by kernel_rfl) (by decide) (fun _ _ _ h => h) (Or.inl ⟨by rfl, ?hy7⟩) hT hS ?_
          case hy7 => (intro w' hT'; (try unfold T8 at hT'); (try unfold S8 at hT'); go_simp; (try with_reducible rfl))
          try simp only [Act.put, List.setIfInBounds_toArray, List.set_cons_zero, List.set_cons_succ]
          refine two_takeT 8 (some 45) (v := ?_) rfl rfl (by kernel_rfl) (by kernel_rfl) (by kernel_rfl) (by decide) (fun _ _ _ h => h) (Or.inl ⟨by rfl, ?hy8⟩) hT hS ?_
          case hy8 => (intro w' hT'; (try unfold T8 at hT'); (try unfold S8 at hT'); go_simp; (try with_reducible rfl))
          try simp only [Act.put, List.setIfInBounds_toArray, List.set_cons_zero, List.set_cons_succ]
          refine two_one 9 rfl (by kernel_rfl) ?_
          intro K hK
          go_simp
          obtain ⟨y3, hy3⟩ : ∃ y3, y3 = y2.alloc (.cells #[.slice none 0 0, .int .i64 0, .int .i64 0] 67 (0, 0)) := ⟨_, rfl⟩
          rw [← hy3]
          obtain ⟨qb, hq⟩ : ∃ q, q = y2.heap.size := ⟨_, rfl⟩
          rw [← hq]
          have hb3 : Below y2.heap.size y2 y3 := by rw [hy3]; exact (Below.refl _ _).alloc (Nat.le_refl _) _
          have hbq : Blk y3 qb 67 #[.slice none 0 0, .int .i64 0, .int .i64 0] := by rw [hq, hy3]; exact Blk.alloc_new _ _ _
          have hT1 : S8 y3 (p3 + 1) (.slice wx tn wc) st.log st.next eb (eo + k * 5) kind at_ file (.slice fx fn fc) key := S8.below hT hb3 (by omega) (by omega)
          refine hK.out _ _ hT1 (fun _ _ => hS) ?_
          clear hK K hT hy3
          have hT := hT1
          clear hT1
          try simp only [Act.put, List.setIfInBounds_toArray, List.set_cons_zero, List.set_cons_succ]
          obtain ⟨_, _, _, g0, g1, g2⟩ := blk3 hbq
          have hq2 : y2.heap.size ≤ qb := Nat.le_of_eq hq.symm
          clear hq
          refine two_one 10 rfl (by kernel_rfl) ?_
          intro K hK
          go_simp
          obtain ⟨wb, hy4⟩ : ∃ y4, y4 = ((y3.setCell ⟨qb, 0, none⟩ (.slice axB anB acB)).setCell ⟨qb, 1, none⟩ (.int .i64 rl)).setCell ⟨qb, 2, none⟩ (.int .i64 rn) := ⟨_, rfl⟩
          rw [← hy4]
          obtain ⟨z1, z2⟩ := three_set hbq wb hy4
          have hb4 : Below y2.heap.size y2 wb := hb3.trans (z2.below hb3.size fun g hg e => by omega)
          have hb1z : Below y1.heap.size y1 wb := hb2.trans (hb4.mono hz2)
          have hT1 : S8 wb (p3 + 1) (.slice wx tn wc) st.log st.next eb (eo + k * 5) kind at_ file (.slice fx fn fc) key := S8.below HT0.out hb1z (by omega) (by omega)
          refine hK.out _ _ hT1 (fun _ _ => hS) ?_
          have KQB := Lib.hid z1
          have HRB := Lib.hid (ApRdC.weak (B' := wr.heap.size) (ApRdC.below har hb4) (by omega))
          have HBwb := Lib.hid (show Below wr.heap.size wr wb from hb1r.trans (hb1z.mono hzy))
          have HQBl := Lib.hid (show wr.heap.size ≤ qb by omega)
          have HBab := Lib.hid (show Below wa.heap.size wa wb from hb1.trans (hb1z.mono hb1.size))
          clear hK K hT hy4 z1 z2 hb3 hb4 hbq g0 g1 g2 har hb2 hb1z hb1 hb1r hry
          have hT := hT1
          clear hT1
          try simp only [Act.put, List.setIfInBounds_toArray, List.set_cons_zero, List.set_cons_succ]
          refine two_one 11 rfl (by kernel_rfl) ?_
          intro K hK
          go_simp
          refine hK.out _ _ hT (fun _ _ => hS) ?_
          clear hK K
          try simp only [Act.put, List.setIfInBounds_toArray, List.set_cons_zero, List.set_cons_succ]
          refine two_done (by kernel_rfl) ?_ _
          clear hT hS HT0 hq2 hz2 hzy
          have HBb := Lib.hid (Hbe.out.trans (HBwb.out.mono Hbe.out.size))
          have HQA := Lib.hid (KQA.out.below HBab.out)
          have hzb := HBwb.out.size
          have HQY := Lib.hid (show ¬ qa = p3 ∧ ¬ qb = p3 ∧ ¬ qa = p3 + 1 ∧ ¬ qb = p3 + 1 by have := HQAl.out; have := HQBl.out; omega)
          cases ro with
          | false =>
            have K3b := Lib.hid (Hk3.out.below HBwb.out)
            have K4b := Lib.hid (Hk4.out.below HBwb.out)
            obtain ⟨a0, a1, a2, _⟩ := blk3 K3b.out
            obtain ⟨g0, g1, g2, _⟩ := blk3 K4b.out
            have HSS := Lib.hid (sameState_any (.slice sx tn sc) (.slice wx tn wc) st st wb (Hrd.out.below HBwb.out) (Hrc.out.rd.below HBwb.out) (valid_fits Hv.out) (valid_fits Hv.out))
            rw [sameB_me] at HSS
            unfold stV at HSS
            go_wp2_with fail
            refine HSS.out.mono ?_
            rintro e wz ⟨rfl, hbz⟩
            have HBz := Lib.hid (HBwb.out.trans (hbz.mono HBwb.out.size))
            clear a0 a1 a2 g0 g1 g2 hbz
            go_wp2_with fail
            go_roundw
            case rel => exact ⟨k + 1, st, d, fvs, _, _, by go_num, by omega, Hown.out.below HBz.out, Hk3.out.below HBz.out, Hk4.out.below HBz.out, Hrd.out.below HBz.out, Hrc.out.below HBz.out, Hv.out, Hall.out, by have := Hdl.out; omega, Hdok.out, Hbe.out.trans (HBz.out.mono Hbe.out.size)⟩
            case measure => simp [intOf]; omega
          | true =>
            obtain ⟨s2, hs2⟩ : ∃ s2, R = some s2 := by
              have h9 := HRO.out
              cases R with
              | none => cases h9
              | some s2 => exact ⟨s2, rfl⟩
            have hrl2 : rl = s2.log := by rw [HRL.out, hs2]; rfl
            have hrn2 : rn = s2.next := by rw [HRN.out, hs2]; rfl
            have HRA2 := HRA.out
            have HRB2 := HRB.out
            rw [hs2] at HRA2 HRB2
            have HAP2 := Lib.hid (show Ed.applyP st ⟨kind, at_, file, files, key⟩ = some s2 by rw [← HR.out, hs2])
            obtain ⟨sn, hsn⟩ : ∃ sn, sn = s2.l.length := ⟨_, rfl⟩
            have han : sn = anA := hsn.trans (rdT_len' (RdTB.rd HRA2)).symm
            have hbn : sn = anB := hsn.trans (rdT_len' (RdTC.rd (RdTCN.rd HRB2))).symm
            subst han hbn
            subst hrl2 hrn2
            have HAV := Lib.hid (RdTB.chg HRA2 (S := fun _ => False) (Chg.of_below HBab.out) (fun _ e => e.elim))
            have HBV := Lib.hid (show RdTCN wb (fun g => g < wr.heap.size) (.slice axB sn acB) s2.l from HRB2)
            have HQX := Lib.hid (show ¬ qa = p3 ∧ ¬ qb = p3 ∧ ¬ qa = p3 + 1 ∧ ¬ qb = p3 + 1 from HQY.out)
            have HV2 := Lib.hid (applyP_valid HAP2.out)
            clear HRA2 HRB2 hs2 hsn
            have K3b := Lib.hid (Hk3.out.below HBwb.out)
            have K4b := Lib.hid (Hk4.out.below HBwb.out)
            obtain ⟨a0, a1, a2, _⟩ := blk3 HQA.out
            obtain ⟨g0, g1, g2, _⟩ := blk3 KQB.out
            go_wp2_with fail
            refine wp_region_two (T := fun W => (W.cell? ⟨qa, 0, none⟩ = some (.slice axA sn acA) ∧ W.cell? ⟨qa, 1, none⟩ = some (.int .i64 s2.log) ∧ W.cell? ⟨qa, 2, none⟩ = some (.int .i64 s2.next)) ∧ W.cell? ⟨qb, 0, none⟩ = some (.slice axB sn acB) ∧ W.cell? ⟨qb, 1, none⟩ = some (.int .i64 s2.log) ∧ W.cell? ⟨qb, 2, none⟩ = some (.int .i64 s2.next)) (S := fun _ => True) (n := 3) (by kernel_rfl) ?_
            obtain ⟨y1, hy1⟩ : ∃ y1, y1 = wb.drew := ⟨_, rfl⟩
            rw [← hy1]
            have hb1 : Below wb.heap.size wb y1 := by rw [hy1]; exact (Below.refl _ _).drew
            have hT : (y1.cell? ⟨qa, 0, none⟩ = some (.slice axA sn acA) ∧ y1.cell? ⟨qa, 1, none⟩ = some (.int .i64 s2.log) ∧ y1.cell? ⟨qa, 2, none⟩ = some (.int .i64 s2.next)) ∧ y1.cell? ⟨qb, 0, none⟩ = some (.slice axB sn acB) ∧ y1.cell? ⟨qb, 1, none⟩ = some (.int .i64 s2.log) ∧ y1.cell? ⟨qb, 2, none⟩ = some (.int .i64 s2.next) := by
              rw [hy1]; exact ⟨⟨a0, a1, a2⟩, g0, g1, g2⟩
            have hS : True := trivial
            have K3c := Lib.hid (K3b.out.below hb1)
            have K4c := Lib.hid (K4b.out.below hb1)
            have HB1c := Lib.hid hb1
            have hz1 := hb1.size
            clear a0 a1 a2 g0 g1 g2 hy1 hb1
            refine two_takeT 0 (some 50) (v := ?_) rfl rfl (by kernel_rfl) (by kernel_rfl) (by kernel_rfl) (by decide) (fun _ _ _ h => h) (Or.inl ⟨by rfl, ?hy0⟩) hT hS ?_
            case hy0 => (intro w' hT'; (try unfold T8 at hT'); (try unfold S8 at hT'); go_simp; (try with_reducible rfl))
            try simp only [Act.put, List.setIfInBounds_toArray, List.set_cons_zero, List.set_cons_succ]
            refine two_takeT 1 (some 51) (v := ?_) rfl rfl (by kernel_rfl) (by kernel_rfl) (by kernel_rfl) (by decide) (fun _ _ _ h => h) (Or.inl ⟨by rfl, ?hy1⟩) hT hS ?_
            case hy1 => (intro w' hT'; (try unfold T8 at hT'); (try unfold S8 at hT'); go_simp; (try with_reducible rfl))
            try simp only [Act.put, List.setIfInBounds_toArray, List.set_cons_zero, List.set_cons_succ]
            obtain ⟨_, _, _, g0, g1, g2⟩ := blk3 K3c.out
            refine two_one 2 rfl (by kernel_rfl) ?_
            intro K hK
            go_simp
            obtain ⟨y2, hy2⟩ : ∃ y2, y2 = ((y1.setCell ⟨p3, 0, none⟩ (.slice axA sn acA)).setCell ⟨p3, 1, none⟩ (.int .i64 s2.log)).setCell ⟨p3, 2, none⟩ (.int .i64 s2.next) := ⟨_, rfl⟩
            rw [← hy2]
            obtain ⟨z1, z2⟩ := three_set K3c.out y2 hy2
            have hqa : ¬ qa = p3 ∧ ¬ qb = p3 ∧ ¬ qa = p3 + 1 ∧ ¬ qb = p3 + 1 := HQX.out
            have hT1 : (y2.cell? ⟨qa, 0, none⟩ = some (.slice axA sn acA) ∧ y2.cell? ⟨qa, 1, none⟩ = some (.int .i64 s2.log) ∧ y2.cell? ⟨qa, 2, none⟩ = some (.int .i64 s2.next)) ∧ y2.cell? ⟨qb, 0, none⟩ = some (.slice axB sn acB) ∧ y2.cell? ⟨qb, 1, none⟩ = some (.int .i64 s2.log) ∧ y2.cell? ⟨qb, 2, none⟩ = some (.int .i64 s2.next) := by
              have hla := (HQA.out.below HB1c.out).lt
              have hlb := (KQB.out.below HB1c.out).lt
              exact ⟨⟨(z2.cell (p := ⟨qa, 0, none⟩) hla hqa.1).trans hT.1.1, (z2.cell (p := ⟨qa, 1, none⟩) hla hqa.1).trans hT.1.2.1, (z2.cell (p := ⟨qa, 2, none⟩) hla hqa.1).trans hT.1.2.2⟩, (z2.cell (p := ⟨qb, 0, none⟩) hlb hqa.2.1).trans hT.2.1, (z2.cell (p := ⟨qb, 1, none⟩) hlb hqa.2.1).trans hT.2.2.1, (z2.cell (p := ⟨qb, 2, none⟩) hlb hqa.2.1).trans hT.2.2.2⟩
            refine hK.out _ _ hT1 (fun _ _ => hS) ?_
            have K3d := Lib.hid z1
            have K4d := Lib.hid (K4c.out.chg z2 (by omega))
            have HC2 := Lib.hid z2
            have hz2 := z2.size
            clear hK K hT hy2 z1 z2 g0 g1 g2
            have hT := hT1
            clear hT1
            try simp only [Act.put, List.setIfInBounds_toArray, List.set_cons_zero, List.set_cons_succ]
            obtain ⟨_, _, _, g0, g1, g2⟩ := blk3 K4d.out
            refine two_one 3 rfl (by kernel_rfl) ?_
            intro K hK
            go_simp
            obtain ⟨y3, hy3⟩ : ∃ y3, y3 = ((y2.setCell ⟨p3 + 1, 0, none⟩ (.slice axB sn acB)).setCell ⟨p3 + 1, 1, none⟩ (.int .i64 s2.log)).setCell ⟨p3 + 1, 2, none⟩ (.int .i64 s2.next) := ⟨_, rfl⟩
            rw [← hy3]
            obtain ⟨z1, z2⟩ := three_set K4d.out y3 hy3
            have hT1 : (y3.cell? ⟨qa, 0, none⟩ = some (.slice axA sn acA) ∧ y3.cell? ⟨qa, 1, none⟩ = some (.int .i64 s2.log) ∧ y3.cell? ⟨qa, 2, none⟩ = some (.int .i64 s2.next)) ∧ y3.cell? ⟨qb, 0, none⟩ = some (.slice axB sn acB) ∧ y3.cell? ⟨qb, 1, none⟩ = some (.int .i64 s2.log) ∧ y3.cell? ⟨qb, 2, none⟩ = some (.int .i64 s2.next) := by
              have hla := (HQA.out.below HB1c.out).lt
              have hlb := (KQB.out.below HB1c.out).lt
              exact ⟨⟨(z2.cell (p := ⟨qa, 0, none⟩) (Nat.lt_of_lt_of_le hla hz2) hqa.2.2.1).trans hT.1.1, (z2.cell (p := ⟨qa, 1, none⟩) (Nat.lt_of_lt_of_le hla hz2) hqa.2.2.1).trans hT.1.2.1, (z2.cell (p := ⟨qa, 2, none⟩) (Nat.lt_of_lt_of_le hla hz2) hqa.2.2.1).trans hT.1.2.2⟩, (z2.cell (p := ⟨qb, 0, none⟩) (Nat.lt_of_lt_of_le hlb hz2) hqa.2.2.2).trans hT.2.1, (z2.cell (p := ⟨qb, 1, none⟩) (Nat.lt_of_lt_of_le hlb hz2) hqa.2.2.2).trans hT.2.2.1, (z2.cell (p := ⟨qb, 2, none⟩) (Nat.lt_of_lt_of_le hlb hz2) hqa.2.2.2).trans hT.2.2.2⟩
            refine hK.out _ _ hT1 (fun _ e => absurd rfl e) ?_
            refine two_done (by kernel_rfl) ?_ _
            have K4e := Lib.hid z1
            have K3e := Lib.hid (K3d.out.chg z2 (by omega))
            have HCE := Lib.hid (show Chg (fun g => g = p3 ∨ g = p3 + 1) wb y3 from (Chg.of_below HB1c.out).trans ((HC2.out.mono fun g _ h => .inl h).trans (z2.mono fun g _ h => .inr h)))
            have hze := HCE.out.size
            have HBe := Lib.hid (show Below w.heap.size w y3 from HBb.out.trans (HCE.out.below HBb.out.size (fun g hg e => by omega)))
            have HOWe := Lib.hid ((Hown.out.below HBwb.out).chg HCE.out (fun g e => by omega))
            clear hK K hT hT1 hy3 z1 z2 g0 g1 g2 hS hqa
            obtain ⟨c0', c1', c2', c3', c4'⟩ := HCL.out y3 HBe.out
            have HAVe := Lib.hid (HAV.out.chg HCE.out (fun g e => by omega))
            have HBVe := Lib.hid (HBV.out.chg HCE.out (fun g e => by show g < wr.heap.size; omega))
            have HOB := Lib.hid (World.ownsRow.lt Hown.out.row)
            have HFe := Lib.hid ((HFL.out.base).chg (Chg.of_below (S := fun _ => False) HBe.out) (fun _ e => e.elim))
            obtain ⟨y4, hy4⟩ : ∃ y4, y4 = y3.alloc (.cells #[.int .i64 kind, .int .i64 at_, .int .i64 file, .slice fx fn fc, .string key] 74 (0, 0)) := ⟨_, rfl⟩
            have hbl4 : Blk y4 y3.heap.size 74 #[.int .i64 kind, .int .i64 at_, .int .i64 file, .slice fx fn fc, .string key] := by rw [hy4]; exact Blk.alloc_new _ _ _
            have hb4 : Below y3.heap.size y3 y4 := by rw [hy4]; exact (Below.refl _ _).alloc (Nat.le_refl _) _
            have HOW4 := Lib.hid (HOWe.out.below hb4)
            have HF4 := Lib.hid (HFe.out.below hb4)
            have Hb4 := Lib.hid hb4
            have HBL4 := Lib.hid hbl4
            have hz4 := hb4.size
            rw [hy4] at HOW4 HBL4 HF4 hz4
            have HY4 := Lib.hid hy4
            clear hy4 hbl4 hb4
            have HSRC := Lib.hid (show ∃ z c, Value.slice (some ⟨y3.heap.size, 0, none⟩) 1 1 = .slice z ([⟨kind, at_, file, files, key⟩] : List Ed.Edit).length c ∧ (0 < ([⟨kind, at_, file, files, key⟩] : List Ed.Edit).length → ∃ b, z = some ⟨b, 0, none⟩ ∧ ∀ i u, ((([⟨kind, at_, file, files, key⟩] : List Ed.Edit).zip ([.slice fx fn fc] : List Value)).flatMap fun p => edRow p.1 p.2)[i]? = some u → (y3.alloc (.cells #[.int .i64 kind, .int .i64 at_, .int .i64 file, .slice fx fn fc, .string key] 74 (0, 0))).cell? ⟨b, i, none⟩ = some u) from
              ⟨_, 1, rfl, fun _ => ⟨y3.heap.size, rfl, fun i u hu => blk_row HBL4.out rfl i u (by simpa [edRow] using hu)⟩⟩)
            have HRB4 := Lib.hid (show ∀ (j : Nat) (hj : j < ([⟨kind, at_, file, files, key⟩] : List Ed.Edit).length) (hj' : j < ([.slice fx fn fc] : List Value).length), RdIB (y3.alloc (.cells #[.int .i64 kind, .int .i64 at_, .int .i64 file, .slice fx fn fc, .string key] 74 (0, 0))) w.heap.size ([.slice fx fn fc] : List Value)[j] ([⟨kind, at_, file, files, key⟩] : List Ed.Edit)[j].files from fun j hj hj' => by
              obtain rfl : j = 0 := by simp at hj; omega
              exact HF4.out)
            have hdl1 : d.length + 1 ≤ 1000000 := by have := Hdl.out; omega
            go_wp2_with (at_builtin; refine wpList_append_eb rfl (.tmp 52) (.tmp 57) rfl w.heap.size (p3 + 2) _ fvs d rfl HOW4.out _ rfl _ _ HSRC.out rfl HRB4.out hdl1 (by omega) (by omega) ?_)
            intro v' y5 ho5 hb5 hc5
            rw [← HY4.out] at hb5 hc5
            have HO5 := Lib.hid ho5
            have HB5' := Lib.hid hb5
            have HC5 := Lib.hid (show Chg (fun g => u5.ownBlock = some g) y3 y5 from (Chg.of_below Hb4.out).trans hc5)
            have hz5 := HC5.out.size
            clear ho5 hb5 hc5 c0' c1' c2' c3' c4'
            have hnp : ∀ g, u5.ownBlock = some g → p3 + 2 ≤ g ∧ g < wr.heap.size := fun g hg => HOB.out g hg
            have K3f := Lib.hid (K3e.out.chg HC5.out (fun e => by have := hnp _ e; omega))
            have K4f := Lib.hid (K4e.out.chg HC5.out (fun e => by have := hnp _ e; omega))
            have HAVf := Lib.hid (HAVe.out.chg HC5.out (fun g e => (hnp g e).2))
            have HBVf := Lib.hid (HBVe.out.chg HC5.out (fun g e => (hnp g e).2))
            have HBf := Lib.hid (show Below w.heap.size w y5 from HBe.out.trans (HC5.out.below HBe.out.size (fun g hg e => by have := hnp g e; omega)))
            obtain ⟨a0, a1, a2, _⟩ := blk3 K3f.out
            obtain ⟨g0, g1, g2, _⟩ := blk3 K4f.out
            have HSS := Lib.hid (sameState_any (.slice axA sn acA) (.slice axB sn acB) s2 s2 y5 HAVf.out.rd HBVf.out.rd.rd (valid_fits HV2.out) (valid_fits HV2.out))
            rw [sameB_me] at HSS
            unfold stV at HSS
            clear hnp
            go_wp2_with fail
            refine HSS.out.mono ?_
            rintro e wz ⟨rfl, hbz⟩
            have HBz := Lib.hid hbz
            clear a0 a1 a2 g0 g1 g2 hbz
            go_wp2_with fail
            go_roundw
            case rel => exact ⟨k + 1, s2, d ++ [⟨kind, at_, file, files, key⟩], fvs ++ [.slice fx fn fc], _, _, by go_num, by omega, HO5.out.below HBz.out, K3f.out.below HBz.out, K4f.out.below HBz.out, HAVf.out.rd.below HBz.out, HBVf.out.rd.below HBz.out, HV2.out, by rw [allQ_snoc, Hall.out]; exact HAP2.out, by have := Hdl.out; simp; omega, fun j hj => (by
              by_cases hjd : j < d.length
              · rw [List.getElem_append_left hjd]; exact Hdok.out j hjd
              · obtain rfl : j = d.length := by simp at hj; omega
                rw [List.getElem_append_right (by omega)]
                simp only [Nat.sub_self, List.getElem_cons_zero]
                exact HOKk.out), HBf.out.trans (HBz.out.mono HBf.out.size)⟩
            case measure => simp [intOf]; omega
        · intro K hK
          go_simp
          obtain ⟨y2, hy2⟩ : ∃ y2, y2 = y1.alloc (.cells #[.slice none 0 0, .int .i64 0, .int .i64 0] 67 (0, 0)) := ⟨_, rfl⟩
          rw [← hy2]
          obtain ⟨qb, hq⟩ : ∃ q, q = y1.heap.size := ⟨_, rfl⟩
          rw [← hq]
          have hb2 : Below y1.heap.size y1 y2 := by rw [hy2]; exact (Below.refl _ _).alloc (Nat.le_refl _) _
          have hbq2 : Blk y2 qb 67 #[.slice none 0 0, .int .i64 0, .int .i64 0] := by rw [hq, hy2]; exact Blk.alloc_new _ _ _
          have hT1 : S8 y2 (p3 + 1) (.slice wx tn wc) st.log st.next eb (eo + k * 5) kind at_ file (.slice fx fn fc) key := S8.below hT hb2 (by omega) (by omega)
          refine hK.out _ _ hT1 (fun _ _ => hS) ?_
          have hz2 := hb2.size
          have hql := hbq2.lt
          have hq2 : y1.heap.size ≤ qb := Nat.le_of_eq hq.symm
          clear hK K hT hy2 hq
          have hT := hT1
          clear hT1
          try simp only [Act.put, List.setIfInBounds_toArray, List.set_cons_zero, List.set_cons_succ]
          refine two_one 5 rfl (by kernel_rfl) ?_
          intro K hK
          go_simp
          refine (HAR.out y2 (hb1r.trans (hb2.mono hzy))).mono ?_
          rintro e y3 ⟨axB, anB, acB, rfl, hb3, har⟩
          have hT1 : S8 y3 (p3 + 1) (.slice wx tn wc) st.log st.next eb (eo + k * 5) kind at_ file (.slice fx fn fc) key := S8.below hT hb3 (by omega) (by omega)
          refine hK.out _ _ hT1 (fun _ _ => hS) ?_
          have hbq := hbq2.below hb3
          have hz3 := hb3.size
          clear hK K hT hbq2
          have hT := hT1
          clear hT1
          try simp only [Act.put, List.setIfInBounds_toArray, List.set_cons_zero, List.set_cons_succ]
          refine two_takeT 6 (some 37) (v := ?_) rfl rfl (by kernel_rfl) (by kernel_rfl) (by kernel_rfl) (by decide) (fun _ _ _ h => h) (Or.inl ⟨by rfl, ?hy6⟩) hT hS ?_
          case hy6 => (intro w' hT'; (try unfold T8 at hT'); (try unfold S8 at hT'); go_simp; (try with_reducible rfl))
          try simp only [Act.put, List.setIfInBounds_toArray, List.set_cons_zero, List.set_cons_succ]
          refine two_takeT 7 (some 44) (v := ?_) rfl rfl (by kernel_rfl) (by kernel_rfl) (by kernel_rfl) (by decide) (fun _ _ _ h => h) (Or.inl ⟨by rfl, ?hy7⟩) hT hS ?_
          case hy7 => (intro w' hT'; (try unfold T8 at hT'); (try unfold S8 at hT'); go_simp; (try with_reducible rfl))
          try simp only [Act.put, List.setIfInBounds_toArray, List.set_cons_zero, List.set_cons_succ]
          refine two_takeT 8 (some 45) (v := ?_) rfl rfl (by kernel_rfl) (by kernel_rfl) (by kernel_rfl) (by decide) (fun _ _ _ h => h) (Or.inl ⟨by rfl, ?hy8⟩) hT hS ?_
          case hy8 => (intro w' hT'; (try unfold T8 at hT'); (try unfold S8 at hT'); go_simp; (try with_reducible rfl))
          try simp only [Act.put, List.setIfInBounds_toArray, List.set_cons_zero, List.set_cons_succ]
          obtain ⟨_, _, _, g0, g1, g2⟩ := blk3 hbq
          refine two_one 10 rfl (by kernel_rfl) ?_
          intro K hK
          go_simp
          obtain ⟨wb, hy4⟩ : ∃ y4, y4 = ((y3.setCell ⟨qb, 0, none⟩ (.slice axB anB acB)).setCell ⟨qb, 1, none⟩ (.int .i64 rl)).setCell ⟨qb, 2, none⟩ (.int .i64 rn) := ⟨_, rfl⟩
          rw [← hy4]
          obtain ⟨z1, z2⟩ := three_set hbq wb hy4
          have hb1z : Below y1.heap.size y1 wb := (hb2.trans (hb3.mono hz2)).trans (z2.below (by omega) fun g hg e => by omega)
          have hT1 : S8 wb (p3 + 1) (.slice wx tn wc) st.log st.next eb (eo + k * 5) kind at_ file (.slice fx fn fc) key := S8.below HT0.out hb1z (by omega) (by omega)
          refine hK.out _ _ hT1 (fun _ _ => hS) ?_
          have KQB := Lib.hid z1
          have HRB := Lib.hid (ApRdC.weak (B' := wr.heap.size) (ApRdC.chg har z2 (fun g e => by omega)) (by omega))
          have HBwb := Lib.hid (show Below wr.heap.size wr wb from hb1r.trans (hb1z.mono hzy))
          have HQBl := Lib.hid (show wr.heap.size ≤ qb by omega)
          have HBab := Lib.hid (show Below wa.heap.size wa wb from hb1.trans (hb1z.mono hb1.size))
          clear hK K hT hy4 z1 z2 hb3 hbq g0 g1 g2 har hb2 hb1z hb1 hb1r hry hql hz3
          have hT := hT1
          clear hT1
          try simp only [Act.put, List.setIfInBounds_toArray, List.set_cons_zero, List.set_cons_succ]
          refine two_one 11 rfl (by kernel_rfl) ?_
          intro K hK
          go_simp
          refine hK.out _ _ hT (fun _ _ => hS) ?_
          clear hK K
          try simp only [Act.put, List.setIfInBounds_toArray, List.set_cons_zero, List.set_cons_succ]
          refine two_done (by kernel_rfl) ?_ _
          clear hT hS HT0 hq2 hz2 hzy
          have HBb := Lib.hid (Hbe.out.trans (HBwb.out.mono Hbe.out.size))
          have HQA := Lib.hid (KQA.out.below HBab.out)
          have hzb := HBwb.out.size
          have HQY := Lib.hid (show ¬ qa = p3 ∧ ¬ qb = p3 ∧ ¬ qa = p3 + 1 ∧ ¬ qb = p3 + 1 by have := HQAl.out; have := HQBl.out; omega)
          cases ro with
          | false =>
            have K3b := Lib.hid (Hk3.out.below HBwb.out)
            have K4b := Lib.hid (Hk4.out.below HBwb.out)
            obtain ⟨a0, a1, a2, _⟩ := blk3 K3b.out
            obtain ⟨g0, g1, g2, _⟩ := blk3 K4b.out
            have HSS := Lib.hid (sameState_any (.slice sx tn sc) (.slice wx tn wc) st st wb (Hrd.out.below HBwb.out) (Hrc.out.rd.below HBwb.out) (valid_fits Hv.out) (valid_fits Hv.out))
            rw [sameB_me] at HSS
            unfold stV at HSS
            go_wp2_with fail
            refine HSS.out.mono ?_
            rintro e wz ⟨rfl, hbz⟩
            have HBz := Lib.hid (HBwb.out.trans (hbz.mono HBwb.out.size))
            clear a0 a1 a2 g0 g1 g2 hbz
            go_wp2_with fail
            go_roundw
            case rel => exact ⟨k + 1, st, d, fvs, _, _, by go_num, by omega, Hown.out.below HBz.out, Hk3.out.below HBz.out, Hk4.out.below HBz.out, Hrd.out.below HBz.out, Hrc.out.below HBz.out, Hv.out, Hall.out, by have := Hdl.out; omega, Hdok.out, Hbe.out.trans (HBz.out.mono Hbe.out.size)⟩
            case measure => simp [intOf]; omega
          | true =>
            obtain ⟨s2, hs2⟩ : ∃ s2, R = some s2 := by
              have h9 := HRO.out
              cases R with
              | none => cases h9
              | some s2 => exact ⟨s2, rfl⟩
            have hrl2 : rl = s2.log := by rw [HRL.out, hs2]; rfl
            have hrn2 : rn = s2.next := by rw [HRN.out, hs2]; rfl
            have HRA2 := HRA.out
            have HRB2 := HRB.out
            rw [hs2] at HRA2 HRB2
            have HAP2 := Lib.hid (show Ed.applyP st ⟨kind, at_, file, files, key⟩ = some s2 by rw [← HR.out, hs2])
            obtain ⟨sn, hsn⟩ : ∃ sn, sn = s2.l.length := ⟨_, rfl⟩
            have han : sn = anA := hsn.trans (rdT_len' (RdTB.rd HRA2)).symm
            have hbn : sn = anB := hsn.trans (rdT_len' (RdTC.rd (RdTCN.rd HRB2))).symm
            subst han hbn
            subst hrl2 hrn2
            have HAV := Lib.hid (RdTB.chg HRA2 (S := fun _ => False) (Chg.of_below HBab.out) (fun _ e => e.elim))
            have HBV := Lib.hid (show RdTCN wb (fun g => g < wr.heap.size) (.slice axB sn acB) s2.l from HRB2)
            have HQX := Lib.hid (show ¬ qa = p3 ∧ ¬ qb = p3 ∧ ¬ qa = p3 + 1 ∧ ¬ qb = p3 + 1 from HQY.out)
            have HV2 := Lib.hid (applyP_valid HAP2.out)
            clear HRA2 HRB2 hs2 hsn
            have K3b := Lib.hid (Hk3.out.below HBwb.out)
            have K4b := Lib.hid (Hk4.out.below HBwb.out)
            obtain ⟨a0, a1, a2, _⟩ := blk3 HQA.out
            obtain ⟨g0, g1, g2, _⟩ := blk3 KQB.out
            go_wp2_with fail
            refine wp_region_two (T := fun W => (W.cell? ⟨qa, 0, none⟩ = some (.slice axA sn acA) ∧ W.cell? ⟨qa, 1, none⟩ = some (.int .i64 s2.log) ∧ W.cell? ⟨qa, 2, none⟩ = some (.int .i64 s2.next)) ∧ W.cell? ⟨qb, 0, none⟩ = some (.slice axB sn acB) ∧ W.cell? ⟨qb, 1, none⟩ = some (.int .i64 s2.log) ∧ W.cell? ⟨qb, 2, none⟩ = some (.int .i64 s2.next)) (S := fun _ => True) (n := 3) (by kernel_rfl) ?_
            obtain ⟨y1, hy1⟩ : ∃ y1, y1 = wb.drew := ⟨_, rfl⟩
            rw [← hy1]
            have hb1 : Below wb.heap.size wb y1 := by rw [hy1]; exact (Below.refl _ _).drew
            have hT : (y1.cell? ⟨qa, 0, none⟩ = some (.slice axA sn acA) ∧ y1.cell? ⟨qa, 1, none⟩ = some (.int .i64 s2.log) ∧ y1.cell? ⟨qa, 2, none⟩ = some (.int .i64 s2.next)) ∧ y1.cell? ⟨qb, 0, none⟩ = some (.slice axB sn acB) ∧ y1.cell? ⟨qb, 1, none⟩ = some (.int .i64 s2.log) ∧ y1.cell? ⟨qb, 2, none⟩ = some (.int .i64 s2.next) := by
              rw [hy1]; exact ⟨⟨a0, a1, a2⟩, g0, g1, g2⟩
            have hS : True := trivial
            have K3c := Lib.hid (K3b.out.below hb1)
            have K4c := Lib.hid (K4b.out.below hb1)
            have HB1c := Lib.hid hb1
            have hz1 := hb1.size
            clear a0 a1 a2 g0 g1 g2 hy1 hb1
            refine two_takeT 0 (some 50) (v := ?_) rfl rfl (by kernel_rfl) (by kernel_rfl) (by kernel_rfl) (by decide) (fun _ _ _ h => h) (Or.inl ⟨by rfl, ?hy0⟩) hT hS ?_
            case hy0 => (intro w' hT'; (try unfold T8 at hT'); (try unfold S8 at hT'); go_simp; (try with_reducible rfl))
            try simp only [Act.put, List.setIfInBounds_toArray, List.set_cons_zero, List.set_cons_succ]
            refine two_takeT 1 (some 51) (v := ?_) rfl rfl (by kernel_rfl) (by kernel_rfl) (by kernel_rfl) (by decide) (fun _ _ _ h => h) (Or.inl ⟨by rfl, ?hy1⟩) hT hS ?_
            case hy1 => (intro w' hT'; (try unfold T8 at hT'); (try unfold S8 at hT'); go_simp; (try with_reducible rfl))
            try simp only [Act.put, List.setIfInBounds_toArray, List.set_cons_zero, List.set_cons_succ]
            obtain ⟨_, _, _, g0, g1, g2⟩ := blk3 K3c.out
            refine two_one 2 rfl (by kernel_rfl) ?_
            intro K hK
            go_simp
            obtain ⟨y2, hy2⟩ : ∃ y2, y2 = ((y1.setCell ⟨p3, 0, none⟩ (.slice axA sn acA)).setCell ⟨p3, 1, none⟩ (.int .i64 s2.log)).setCell ⟨p3, 2, none⟩ (.int .i64 s2.next) := ⟨_, rfl⟩
            rw [← hy2]
            obtain ⟨z1, z2⟩ := three_set K3c.out y2 hy2
            have hqa : ¬ qa = p3 ∧ ¬ qb = p3 ∧ ¬ qa = p3 + 1 ∧ ¬ qb = p3 + 1 := HQX.out
            have hT1 : (y2.cell? ⟨qa, 0, none⟩ = some (.slice axA sn acA) ∧ y2.cell? ⟨qa, 1, none⟩ = some (.int .i64 s2.log) ∧ y2.cell? ⟨qa, 2, none⟩ = some (.int .i64 s2.next)) ∧ y2.cell? ⟨qb, 0, none⟩ = some (.slice axB sn acB) ∧ y2.cell? ⟨qb, 1, none⟩ = some (.int .i64 s2.log) ∧ y2.cell? ⟨qb, 2, none⟩ = some (.int .i64 s2.next) := by
              have hla := (HQA.out.below HB1c.out).lt
              have hlb := (KQB.out.below HB1c.out).lt
              exact ⟨⟨(z2.cell (p := ⟨qa, 0, none⟩) hla hqa.1).trans hT.1.1, (z2.cell (p := ⟨qa, 1, none⟩) hla hqa.1).trans hT.1.2.1, (z2.cell (p := ⟨qa, 2, none⟩) hla hqa.1).trans hT.1.2.2⟩, (z2.cell (p := ⟨qb, 0, none⟩) hlb hqa.2.1).trans hT.2.1, (z2.cell (p := ⟨qb, 1, none⟩) hlb hqa.2.1).trans hT.2.2.1, (z2.cell (p := ⟨qb, 2, none⟩) hlb hqa.2.1).trans hT.2.2.2⟩
            refine hK.out _ _ hT1 (fun _ _ => hS) ?_
            have K3d := Lib.hid z1
            have K4d := Lib.hid (K4c.out.chg z2 (by omega))
            have HC2 := Lib.hid z2
            have hz2 := z2.size
            clear hK K hT hy2 z1 z2 g0 g1 g2
            have hT := hT1
            clear hT1
            try simp only [Act.put, List.setIfInBounds_toArray, List.set_cons_zero, List.set_cons_succ]
            obtain ⟨_, _, _, g0, g1, g2⟩ := blk3 K4d.out
            refine two_one 3 rfl (by kernel_rfl) ?_
            intro K hK
            go_simp
            obtain ⟨y3, hy3⟩ : ∃ y3, y3 = ((y2.setCell ⟨p3 + 1, 0, none⟩ (.slice axB sn acB)).setCell ⟨p3 + 1, 1, none⟩ (.int .i64 s2.log)).setCell ⟨p3 + 1, 2, none⟩ (.int .i64 s2.next) := ⟨_, rfl⟩
            rw [← hy3]
            obtain ⟨z1, z2⟩ := three_set K4d.out y3 hy3
            have hT1 : (y3.cell? ⟨qa, 0, none⟩ = some (.slice axA sn acA) ∧ y3.cell? ⟨qa, 1, none⟩ = some (.int .i64 s2.log) ∧ y3.cell? ⟨qa, 2, none⟩ = some (.int .i64 s2.next)) ∧ y3.cell? ⟨qb, 0, none⟩ = some (.slice axB sn acB) ∧ y3.cell? ⟨qb, 1, none⟩ = some (.int .i64 s2.log) ∧ y3.cell? ⟨qb, 2, none⟩ = some (.int .i64 s2.next) := by
              have hla := (HQA.out.below HB1c.out).lt
              have hlb := (KQB.out.below HB1c.out).lt
              exact ⟨⟨(z2.cell (p := ⟨qa, 0, none⟩) (Nat.lt_of_lt_of_le hla hz2) hqa.2.2.1).trans hT.1.1, (z2.cell (p := ⟨qa, 1, none⟩) (Nat.lt_of_lt_of_le hla hz2) hqa.2.2.1).trans hT.1.2.1, (z2.cell (p := ⟨qa, 2, none⟩) (Nat.lt_of_lt_of_le hla hz2) hqa.2.2.1).trans hT.1.2.2⟩, (z2.cell (p := ⟨qb, 0, none⟩) (Nat.lt_of_lt_of_le hlb hz2) hqa.2.2.2).trans hT.2.1, (z2.cell (p := ⟨qb, 1, none⟩) (Nat.lt_of_lt_of_le hlb hz2) hqa.2.2.2).trans hT.2.2.1, (z2.cell (p := ⟨qb, 2, none⟩) (Nat.lt_of_lt_of_le hlb hz2) hqa.2.2.2).trans hT.2.2.2⟩
            refine hK.out _ _ hT1 (fun _ e => absurd rfl e) ?_
            refine two_done (by kernel_rfl) ?_ _
            have K4e := Lib.hid z1
            have K3e := Lib.hid (K3d.out.chg z2 (by omega))
            have HCE := Lib.hid (show Chg (fun g => g = p3 ∨ g = p3 + 1) wb y3 from (Chg.of_below HB1c.out).trans ((HC2.out.mono fun g _ h => .inl h).trans (z2.mono fun g _ h => .inr h)))
            have hze := HCE.out.size
            have HBe := Lib.hid (show Below w.heap.size w y3 from HBb.out.trans (HCE.out.below HBb.out.size (fun g hg e => by omega)))
            have HOWe := Lib.hid ((Hown.out.below HBwb.out).chg HCE.out (fun g e => by omega))
            clear hK K hT hT1 hy3 z1 z2 g0 g1 g2 hS hqa
            obtain ⟨c0', c1', c2', c3', c4'⟩ := HCL.out y3 HBe.out
            have HAVe := Lib.hid (HAV.out.chg HCE.out (fun g e => by omega))
            have HBVe := Lib.hid (HBV.out.chg HCE.out (fun g e => by show g < wr.heap.size; omega))
            have HOB := Lib.hid (World.ownsRow.lt Hown.out.row)
            have HFe := Lib.hid ((HFL.out.base).chg (Chg.of_below (S := fun _ => False) HBe.out) (fun _ e => e.elim))
            obtain ⟨y4, hy4⟩ : ∃ y4, y4 = y3.alloc (.cells #[.int .i64 kind, .int .i64 at_, .int .i64 file, .slice fx fn fc, .string key] 74 (0, 0)) := ⟨_, rfl⟩
            have hbl4 : Blk y4 y3.heap.size 74 #[.int .i64 kind, .int .i64 at_, .int .i64 file, .slice fx fn fc, .string key] := by rw [hy4]; exact Blk.alloc_new _ _ _
            have hb4 : Below y3.heap.size y3 y4 := by rw [hy4]; exact (Below.refl _ _).alloc (Nat.le_refl _) _
            have HOW4 := Lib.hid (HOWe.out.below hb4)
            have HF4 := Lib.hid (HFe.out.below hb4)
            have Hb4 := Lib.hid hb4
            have HBL4 := Lib.hid hbl4
            have hz4 := hb4.size
            rw [hy4] at HOW4 HBL4 HF4 hz4
            have HY4 := Lib.hid hy4
            clear hy4 hbl4 hb4
            have HSRC := Lib.hid (show ∃ z c, Value.slice (some ⟨y3.heap.size, 0, none⟩) 1 1 = .slice z ([⟨kind, at_, file, files, key⟩] : List Ed.Edit).length c ∧ (0 < ([⟨kind, at_, file, files, key⟩] : List Ed.Edit).length → ∃ b, z = some ⟨b, 0, none⟩ ∧ ∀ i u, ((([⟨kind, at_, file, files, key⟩] : List Ed.Edit).zip ([.slice fx fn fc] : List Value)).flatMap fun p => edRow p.1 p.2)[i]? = some u → (y3.alloc (.cells #[.int .i64 kind, .int .i64 at_, .int .i64 file, .slice fx fn fc, .string key] 74 (0, 0))).cell? ⟨b, i, none⟩ = some u) from
              ⟨_, 1, rfl, fun _ => ⟨y3.heap.size, rfl, fun i u hu => blk_row HBL4.out rfl i u (by simpa [edRow] using hu)⟩⟩)
            have HRB4 := Lib.hid (show ∀ (j : Nat) (hj : j < ([⟨kind, at_, file, files, key⟩] : List Ed.Edit).length) (hj' : j < ([.slice fx fn fc] : List Value).length), RdIB (y3.alloc (.cells #[.int .i64 kind, .int .i64 at_, .int .i64 file, .slice fx fn fc, .string key] 74 (0, 0))) w.heap.size ([.slice fx fn fc] : List Value)[j] ([⟨kind, at_, file, files, key⟩] : List Ed.Edit)[j].files from fun j hj hj' => by
              obtain rfl : j = 0 := by simp at hj; omega
              exact HF4.out)
            have hdl1 : d.length + 1 ≤ 1000000 := by have := Hdl.out; omega
            go_wp2_with (at_builtin; refine wpList_append_eb rfl (.tmp 52) (.tmp 57) rfl w.heap.size (p3 + 2) _ fvs d rfl HOW4.out _ rfl _ _ HSRC.out rfl HRB4.out hdl1 (by omega) (by omega) ?_)
            intro v' y5 ho5 hb5 hc5
            rw [← HY4.out] at hb5 hc5
            have HO5 := Lib.hid ho5
            have HB5' := Lib.hid hb5
            have HC5 := Lib.hid (show Chg (fun g => u5.ownBlock = some g) y3 y5 from (Chg.of_below Hb4.out).trans hc5)
            have hz5 := HC5.out.size
            clear ho5 hb5 hc5 c0' c1' c2' c3' c4'
            have hnp : ∀ g, u5.ownBlock = some g → p3 + 2 ≤ g ∧ g < wr.heap.size := fun g hg => HOB.out g hg
            have K3f := Lib.hid (K3e.out.chg HC5.out (fun e => by have := hnp _ e; omega))
            have K4f := Lib.hid (K4e.out.chg HC5.out (fun e => by have := hnp _ e; omega))
            have HAVf := Lib.hid (HAVe.out.chg HC5.out (fun g e => (hnp g e).2))
            have HBVf := Lib.hid (HBVe.out.chg HC5.out (fun g e => (hnp g e).2))
            have HBf := Lib.hid (show Below w.heap.size w y5 from HBe.out.trans (HC5.out.below HBe.out.size (fun g hg e => by have := hnp g e; omega)))
            obtain ⟨a0, a1, a2, _⟩ := blk3 K3f.out
            obtain ⟨g0, g1, g2, _⟩ := blk3 K4f.out
            have HSS := Lib.hid (sameState_any (.slice axA sn acA) (.slice axB sn acB) s2 s2 y5 HAVf.out.rd HBVf.out.rd.rd (valid_fits HV2.out) (valid_fits HV2.out))
            rw [sameB_me] at HSS
            unfold stV at HSS
            clear hnp
            go_wp2_with fail
            refine HSS.out.mono ?_
            rintro e wz ⟨rfl, hbz⟩
            have HBz := Lib.hid hbz
            clear a0 a1 a2 g0 g1 g2 hbz
            go_wp2_with fail
            go_roundw
            case rel => exact ⟨k + 1, s2, d ++ [⟨kind, at_, file, files, key⟩], fvs ++ [.slice fx fn fc], _, _, by go_num, by omega, HO5.out.below HBz.out, K3f.out.below HBz.out, K4f.out.below HBz.out, HAVf.out.rd.below HBz.out, HBVf.out.rd.below HBz.out, HV2.out, by rw [allQ_snoc, Hall.out]; exact HAP2.out, by have := Hdl.out; simp; omega, fun j hj => (by
              by_cases hjd : j < d.length
              · rw [List.getElem_append_left hjd]; exact Hdok.out j hjd
              · obtain rfl : j = d.length := by simp at hj; omega
                rw [List.getElem_append_right (by omega)]
                simp only [Nat.sub_self, List.getElem_cons_zero]
                exact HOKk.out), HBf.out.trans (HBz.out.mono HBf.out.size)⟩
            case measure => simp [intOf]; omega
      · intro K hK
        go_simp
        obtain ⟨y2, hy2⟩ : ∃ y2, y2 = y1.alloc (.cells #[.slice none 0 0, .int .i64 0, .int .i64 0] 67 (0, 0)) := ⟨_, rfl⟩
        rw [← hy2]
        obtain ⟨qa, hq⟩ : ∃ q, q = y1.heap.size := ⟨_, rfl⟩
        rw [← hq]
        have hb2 : Below y1.heap.size y1 y2 := by rw [hy2]; exact (Below.refl _ _).alloc (Nat.le_refl _) _
        have hbq2 : Blk y2 qa 67 #[.slice none 0 0, .int .i64 0, .int .i64 0] := by rw [hq, hy2]; exact Blk.alloc_new _ _ _
        have hT1 : S8 y2 (p3) (.slice sx tn sc) st.log st.next eb (eo + k * 5) kind at_ file (.slice fx fn fc) key := S8.below hT hb2 (by omega) (by omega)
        refine hK.out _ _ hT1 (fun _ _ => hS) ?_
        have hz2 := hb2.size
        have hql := hbq2.lt
        have hq2 : y1.heap.size ≤ qa := Nat.le_of_eq hq.symm
        clear hK K hT hy2 hq
        have hT := hT1
        clear hT1
        try simp only [Act.put, List.setIfInBounds_toArray, List.set_cons_zero, List.set_cons_succ]
        refine two_one 5 rfl (by kernel_rfl) ?_
        intro K hK
        go_simp
        refine (HAP.out y2 (hb1r.trans (hb2.mono hzy))).mono ?_
        rintro e y3 ⟨axA, anA, acA, rfl, hb3, har⟩
        have hT1 : S8 y3 (p3) (.slice sx tn sc) st.log st.next eb (eo + k * 5) kind at_ file (.slice fx fn fc) key := S8.below hT hb3 (by omega) (by omega)
        refine hK.out _ _ hT1 (fun _ _ => hS) ?_
        have hbq := hbq2.below hb3
        have hz3 := hb3.size
        clear hK K hT hbq2
        have hT := hT1
        clear hT1
        try simp only [Act.put, List.setIfInBounds_toArray, List.set_cons_zero, List.set_cons_succ]
        refine two_takeT 6 (some 28) (v := ?_) rfl rfl (by kernel_rfl) (by kernel_rfl) (by kernel_rfl) (by decide) (fun _ _ _ h => h) (Or.inl ⟨by rfl, ?hy6⟩) hT hS ?_
        case hy6 => (intro w' hT'; (try unfold T8 at hT'); (try unfold S8 at hT'); go_simp; (try with_reducible rfl))
        try simp only [Act.put, List.setIfInBounds_toArray, List.set_cons_zero, List.set_cons_succ]
        refine two_takeT 7 (some 35) (v := ?_) rfl rfl (by kernel_rfl) (by kernel_rfl) (by kernel_rfl) (by decide) (fun _ _ _ h => h) (Or.inl ⟨by rfl, ?hy7⟩) hT hS ?_
        case hy7 => (intro w' hT'; (try unfold T8 at hT'); (try unfold S8 at hT'); go_simp; (try with_reducible rfl))
        try simp only [Act.put, List.setIfInBounds_toArray, List.set_cons_zero, List.set_cons_succ]
        refine two_takeT 8 (some 36) (v := ?_) rfl rfl (by kernel_rfl) (by kernel_rfl) (by kernel_rfl) (by decide) (fun _ _ _ h => h) (Or.inl ⟨by rfl, ?hy8⟩) hT hS ?_
        case hy8 => (intro w' hT'; (try unfold T8 at hT'); (try unfold S8 at hT'); go_simp; (try with_reducible rfl))
        try simp only [Act.put, List.setIfInBounds_toArray, List.set_cons_zero, List.set_cons_succ]
        obtain ⟨_, _, _, g0, g1, g2⟩ := blk3 hbq
        refine two_one 10 rfl (by kernel_rfl) ?_
        intro K hK
        go_simp
        obtain ⟨wa, hy4⟩ : ∃ y4, y4 = ((y3.setCell ⟨qa, 0, none⟩ (.slice axA anA acA)).setCell ⟨qa, 1, none⟩ (.int .i64 rl)).setCell ⟨qa, 2, none⟩ (.int .i64 rn) := ⟨_, rfl⟩
        rw [← hy4]
        obtain ⟨z1, z2⟩ := three_set hbq wa hy4
        have hb1z : Below y1.heap.size y1 wa := (hb2.trans (hb3.mono hz2)).trans (z2.below (by omega) fun g hg e => by omega)
        have hT1 : S8 wa (p3) (.slice sx tn sc) st.log st.next eb (eo + k * 5) kind at_ file (.slice fx fn fc) key := S8.below HT0.out hb1z (by omega) (by omega)
        refine hK.out _ _ hT1 (fun _ _ => hS) ?_
        have KQA := Lib.hid z1
        have HRA := Lib.hid (ApRd.weak (B' := wr.heap.size) (ApRd.chg har z2 (fun g e => by omega)) (by omega))
        have HBwa := Lib.hid (show Below wr.heap.size wr wa from hb1r.trans (hb1z.mono hzy))
        have HQAl := Lib.hid (show wr.heap.size ≤ qa by omega)
        have HBab := Lib.hid (show Below wr.heap.size wr wa from hb1.trans (hb1z.mono hb1.size))
        clear hK K hT hy4 z1 z2 hb3 hbq g0 g1 g2 har hb2 hb1z hb1 hb1r hry hql hz3
        have hT := hT1
        clear hT1
        try simp only [Act.put, List.setIfInBounds_toArray, List.set_cons_zero, List.set_cons_succ]
        refine two_one 11 rfl (by kernel_rfl) ?_
        intro K hK
        go_simp
        refine hK.out _ _ hT (fun _ _ => hS) ?_
        clear hK K
        try simp only [Act.put, List.setIfInBounds_toArray, List.set_cons_zero, List.set_cons_succ]
        refine two_done (by kernel_rfl) ?_ _
        clear hT hS HT0 hq2 hz2 hzy
        go_wp2_with fail
        refine wp_region_two (T := fun W => S8 W (p3 + 1) (.slice wx tn wc) st.log st.next eb (eo + k * 5) kind at_ file (.slice fx fn fc) key) (S := fun _ => True) (n := 10) (by kernel_rfl) ?_
        obtain ⟨y1, hy1⟩ : ∃ y1, y1 = wa.drew := ⟨_, rfl⟩
        rw [← hy1]
        have hb1 : Below wa.heap.size wa y1 := by rw [hy1]; exact (Below.refl _ _).drew
        have hry : Below wr.heap.size wr wa := HBwa.out
        have hb1r : Below wr.heap.size wr y1 := hry.trans (hb1.mono hry.size)
        have hT : S8 y1 (p3 + 1) (.slice wx tn wc) st.log st.next eb (eo + k * 5) kind at_ file (.slice fx fn fc) key := by
          obtain ⟨z0, z1, z2, _⟩ := blk3 (Hk4.out.below hb1r)
          exact ⟨⟨z0, z1, z2⟩, HCL.out y1 (Hbe.out.trans (hb1r.mono Hbe.out.size))⟩
        have hS : True := trivial
        have hzy := hb1r.size
        have HT0 := Lib.hid hT
        clear hy1
        refine two_takeT 0 (some 38) (v := ?_) rfl rfl (by kernel_rfl) (by kernel_rfl) (by kernel_rfl) (by decide) (fun _ _ _ h => h) (Or.inl ⟨by rfl, ?hy0⟩) hT hS ?_
        case hy0 => (intro w' hT'; (try unfold T8 at hT'); (try unfold S8 at hT'); go_simp; (try with_reducible rfl))
        try simp only [Act.put, List.setIfInBounds_toArray, List.set_cons_zero, List.set_cons_succ]
        refine two_takeT 1 (some 39) (v := ?_) rfl rfl (by kernel_rfl) (by kernel_rfl) (by kernel_rfl) (by decide) (fun _ _ _ h => h) (Or.inl ⟨by rfl, ?hy1⟩) hT hS ?_
        case hy1 => (intro w' hT'; (try unfold T8 at hT'); (try unfold S8 at hT'); go_simp; (try with_reducible rfl))
        try simp only [Act.put, List.setIfInBounds_toArray, List.set_cons_zero, List.set_cons_succ]
        refine two_takeT 2 (some 40) (v := ?_) rfl rfl (by kernel_rfl) (by kernel_rfl) (by kernel_rfl) (by decide) (fun _ _ _ h => h) (Or.inl ⟨by rfl, ?hy2⟩) hT hS ?_
        case hy2 => (intro w' hT'; (try unfold T8 at hT'); (try unfold S8 at hT'); go_simp; (try with_reducible rfl))
        try simp only [Act.put, List.setIfInBounds_toArray, List.set_cons_zero, List.set_cons_succ]
        refine two_takeT 3 (some 41) (v := ?_) rfl rfl (by kernel_rfl) (by kernel_rfl) (by kernel_rfl) (by decide) (fun _ _ _ h => h) (Or.inl ⟨by rfl, ?hy3⟩) hT hS ?_
        case hy3 => (intro w' hT'; (try unfold T8 at hT'); (try unfold S8 at hT'); go_simp; (try with_reducible rfl))
        try simp only [Act.put, List.setIfInBounds_toArray, List.set_cons_zero, List.set_cons_succ]
        refine two_takeT 4 (some 42) (v := ?_) rfl rfl (by kernel_rfl) (by kernel_rfl) (by kernel_rfl) (by decide) (fun _ _ _ h => h) (Or.inl ⟨by rfl, ?hy4⟩) hT hS ?_
        case hy4 => (intro w' hT'; (try unfold T8 at hT'); (try unfold S8 at hT'); go_simp; (try with_reducible rfl))
        try simp only [Act.put, List.setIfInBounds_toArray, List.set_cons_zero, List.set_cons_succ]
        refine two_two 5 9 rfl rfl (by kernel_rfl) ?_ ?_
        · intro K hK
          go_simp
          refine (HAR.out y1 hb1r).mono ?_
          rintro e y2 ⟨axB, anB, acB, rfl, hb2, har⟩
          have hT1 : S8 y2 (p3 + 1) (.slice wx tn wc) st.log st.next eb (eo + k * 5) kind at_ file (.slice fx fn fc) key := S8.below hT hb2 (by omega) (by omega)
          refine hK.out _ _ hT1 (fun _ _ => hS) ?_
          have hz2 := hb2.size
          clear hK K hT
          have hT := hT1
          clear hT1
          try simp only [Act.put, List.setIfInBounds_toArray, List.set_cons_zero, List.set_cons_succ]
          refine two_takeT 6 (some 37) (v := ?_) rfl rfl (by kernel_rfl) (by kernel_rfl) (by kernel_rfl) (by decide) (fun _ _ _ h => h) (Or.inl ⟨by rfl, ?hy6⟩) hT hS ?_
          case hy6 => (intro w' hT'; (try unfold T8 at hT'); (try unfold S8 at hT'); go_simp; (try with_reducible rfl))
          try simp only [Act.put, List.setIfInBounds_toArray, List.set_cons_zero, List.set_cons_succ]
          refine two_takeT 7 (some 44) (v := ?_) rfl rfl (by kernel_rfl) (by kernel_rfl) (by kernel_rfl) (by decide) (fun _ _ _ h => h) (Or.inl ⟨by rfl, ?hy7⟩) hT hS ?_
          case hy7 => (intro w' hT'; (try unfold T8 at hT'); (try unfold S8 at hT'); go_simp; (try with_reducible rfl))
          try simp only [Act.put, List.setIfInBounds_toArray, List.set_cons_zero, List.set_cons_succ]
          refine two_takeT 8 (some 45) (v := ?_) rfl rfl (by kernel_rfl) (by kernel_rfl) (by kernel_rfl) (by decide) (fun _ _ _ h => h) (Or.inl ⟨by rfl, ?hy8⟩) hT hS ?_
          case hy8 => (intro w' hT'; (try unfold T8 at hT'); (try unfold S8 at hT'); go_simp; (try with_reducible rfl))
          try simp only [Act.put, List.setIfInBounds_toArray, List.set_cons_zero, List.set_cons_succ]
          refine two_one 9 rfl (by kernel_rfl) ?_
          intro K hK
          go_simp
          obtain ⟨y3, hy3⟩ : ∃ y3, y3 = y2.alloc (.cells #[.slice none 0 0, .int .i64 0, .int .i64 0] 67 (0, 0)) := ⟨_, rfl⟩
          rw [← hy3]
          obtain ⟨qb, hq⟩ : ∃ q, q = y2.heap.size := ⟨_, rfl⟩
          rw [← hq]
          have hb3 : Below y2.heap.size y2 y3 := by rw [hy3]; exact (Below.refl _ _).alloc (Nat.le_refl _) _
          have hbq : Blk y3 qb 67 #[.slice none 0 0, .int .i64 0, .int .i64 0] := by rw [hq, hy3]; exact Blk.alloc_new _ _ _
          have hT1 : S8 y3 (p3 + 1) (.slice wx tn wc) st.log st.next eb (eo + k * 5) kind at_ file (.slice fx fn fc) key := S8.below hT hb3 (by omega) (by omega)
          refine hK.out _ _ hT1 (fun _ _ => hS) ?_
          clear hK K hT hy3
          have hT := hT1
          clear hT1
          try simp only [Act.put, List.setIfInBounds_toArray, List.set_cons_zero, List.set_cons_succ]
          obtain ⟨_, _, _, g0, g1, g2⟩ := blk3 hbq
          have hq2 : y2.heap.size ≤ qb := Nat.le_of_eq hq.symm
          clear hq
          refine two_one 10 rfl (by kernel_rfl) ?_
          intro K hK
          go_simp
          obtain ⟨wb, hy4⟩ : ∃ y4, y4 = ((y3.setCell ⟨qb, 0, none⟩ (.slice axB anB acB)).setCell ⟨qb, 1, none⟩ (.int .i64 rl)).setCell ⟨qb, 2, none⟩ (.int .i64 rn) := ⟨_, rfl⟩
          rw [← hy4]
          obtain ⟨z1, z2⟩ := three_set hbq wb hy4
          have hb4 : Below y2.heap.size y2 wb := hb3.trans (z2.below hb3.size fun g hg e => by omega)
          have hb1z : Below y1.heap.size y1 wb := hb2.trans (hb4.mono hz2)
          have hT1 : S8 wb (p3 + 1) (.slice wx tn wc) st.log st.next eb (eo + k * 5) kind at_ file (.slice fx fn fc) key := S8.below HT0.out hb1z (by omega) (by omega)
          refine hK.out _ _ hT1 (fun _ _ => hS) ?_
          have KQB := Lib.hid z1
          have HRB := Lib.hid (ApRdC.weak (B' := wr.heap.size) (ApRdC.below har hb4) (by omega))
          have HBwb := Lib.hid (show Below wr.heap.size wr wb from hb1r.trans (hb1z.mono hzy))
          have HQBl := Lib.hid (show wr.heap.size ≤ qb by omega)
          have HBab := Lib.hid (show Below wa.heap.size wa wb from hb1.trans (hb1z.mono hb1.size))
          clear hK K hT hy4 z1 z2 hb3 hb4 hbq g0 g1 g2 har hb2 hb1z hb1 hb1r hry
          have hT := hT1
          clear hT1
          try simp only [Act.put, List.setIfInBounds_toArray, List.set_cons_zero, List.set_cons_succ]
          refine two_one 11 rfl (by kernel_rfl) ?_
          intro K hK
          go_simp
          refine hK.out _ _ hT (fun _ _ => hS) ?_
          clear hK K
          try simp only [Act.put, List.setIfInBounds_toArray, List.set_cons_zero, List.set_cons_succ]
          refine two_done (by kernel_rfl) ?_ _
          clear hT hS HT0 hq2 hz2 hzy
          have HBb := Lib.hid (Hbe.out.trans (HBwb.out.mono Hbe.out.size))
          have HQA := Lib.hid (KQA.out.below HBab.out)
          have hzb := HBwb.out.size
          have HQY := Lib.hid (show ¬ qa = p3 ∧ ¬ qb = p3 ∧ ¬ qa = p3 + 1 ∧ ¬ qb = p3 + 1 by have := HQAl.out; have := HQBl.out; omega)
          cases ro with
          | false =>
            have K3b := Lib.hid (Hk3.out.below HBwb.out)
            have K4b := Lib.hid (Hk4.out.below HBwb.out)
            obtain ⟨a0, a1, a2, _⟩ := blk3 K3b.out
            obtain ⟨g0, g1, g2, _⟩ := blk3 K4b.out
            have HSS := Lib.hid (sameState_any (.slice sx tn sc) (.slice wx tn wc) st st wb (Hrd.out.below HBwb.out) (Hrc.out.rd.below HBwb.out) (valid_fits Hv.out) (valid_fits Hv.out))
            rw [sameB_me] at HSS
            unfold stV at HSS
            go_wp2_with fail
            refine HSS.out.mono ?_
            rintro e wz ⟨rfl, hbz⟩
            have HBz := Lib.hid (HBwb.out.trans (hbz.mono HBwb.out.size))
            clear a0 a1 a2 g0 g1 g2 hbz
            go_wp2_with fail
            go_roundw
            case rel => exact ⟨k + 1, st, d, fvs, _, _, by go_num, by omega, Hown.out.below HBz.out, Hk3.out.below HBz.out, Hk4.out.below HBz.out, Hrd.out.below HBz.out, Hrc.out.below HBz.out, Hv.out, Hall.out, by have := Hdl.out; omega, Hdok.out, Hbe.out.trans (HBz.out.mono Hbe.out.size)⟩
            case measure => simp [intOf]; omega
          | true =>
            obtain ⟨s2, hs2⟩ : ∃ s2, R = some s2 := by
              have h9 := HRO.out
              cases R with
              | none => cases h9
              | some s2 => exact ⟨s2, rfl⟩
            have hrl2 : rl = s2.log := by rw [HRL.out, hs2]; rfl
            have hrn2 : rn = s2.next := by rw [HRN.out, hs2]; rfl
            have HRA2 := HRA.out
            have HRB2 := HRB.out
            rw [hs2] at HRA2 HRB2
            have HAP2 := Lib.hid (show Ed.applyP st ⟨kind, at_, file, files, key⟩ = some s2 by rw [← HR.out, hs2])
            obtain ⟨sn, hsn⟩ : ∃ sn, sn = s2.l.length := ⟨_, rfl⟩
            have han : sn = anA := hsn.trans (rdT_len' (RdTB.rd HRA2)).symm
            have hbn : sn = anB := hsn.trans (rdT_len' (RdTC.rd (RdTCN.rd HRB2))).symm
            subst han hbn
            subst hrl2 hrn2
            have HAV := Lib.hid (RdTB.chg HRA2 (S := fun _ => False) (Chg.of_below HBab.out) (fun _ e => e.elim))
            have HBV := Lib.hid (show RdTCN wb (fun g => g < wr.heap.size) (.slice axB sn acB) s2.l from HRB2)
            have HQX := Lib.hid (show ¬ qa = p3 ∧ ¬ qb = p3 ∧ ¬ qa = p3 + 1 ∧ ¬ qb = p3 + 1 from HQY.out)
            have HV2 := Lib.hid (applyP_valid HAP2.out)
            clear HRA2 HRB2 hs2 hsn
            have K3b := Lib.hid (Hk3.out.below HBwb.out)
            have K4b := Lib.hid (Hk4.out.below HBwb.out)
            obtain ⟨a0, a1, a2, _⟩ := blk3 HQA.out
            obtain ⟨g0, g1, g2, _⟩ := blk3 KQB.out
            go_wp2_with fail
            refine wp_region_two (T := fun W => (W.cell? ⟨qa, 0, none⟩ = some (.slice axA sn acA) ∧ W.cell? ⟨qa, 1, none⟩ = some (.int .i64 s2.log) ∧ W.cell? ⟨qa, 2, none⟩ = some (.int .i64 s2.next)) ∧ W.cell? ⟨qb, 0, none⟩ = some (.slice axB sn acB) ∧ W.cell? ⟨qb, 1, none⟩ = some (.int .i64 s2.log) ∧ W.cell? ⟨qb, 2, none⟩ = some (.int .i64 s2.next)) (S := fun _ => True) (n := 3) (by kernel_rfl) ?_
            obtain ⟨y1, hy1⟩ : ∃ y1, y1 = wb.drew := ⟨_, rfl⟩
            rw [← hy1]
            have hb1 : Below wb.heap.size wb y1 := by rw [hy1]; exact (Below.refl _ _).drew
            have hT : (y1.cell? ⟨qa, 0, none⟩ = some (.slice axA sn acA) ∧ y1.cell? ⟨qa, 1, none⟩ = some (.int .i64 s2.log) ∧ y1.cell? ⟨qa, 2, none⟩ = some (.int .i64 s2.next)) ∧ y1.cell? ⟨qb, 0, none⟩ = some (.slice axB sn acB) ∧ y1.cell? ⟨qb, 1, none⟩ = some (.int .i64 s2.log) ∧ y1.cell? ⟨qb, 2, none⟩ = some (.int .i64 s2.next) := by
              rw [hy1]; exact ⟨⟨a0, a1, a2⟩, g0, g1, g2⟩
            have hS : True := trivial
            have K3c := Lib.hid (K3b.out.below hb1)
            have K4c := Lib.hid (K4b.out.below hb1)
            have HB1c := Lib.hid hb1
            have hz1 := hb1.size
            clear a0 a1 a2 g0 g1 g2 hy1 hb1
            refine two_takeT 0 (some 50) (v := ?_) rfl rfl (by kernel_rfl) (by kernel_rfl) (by kernel_rfl) (by decide) (fun _ _ _ h => h) (Or.inl ⟨by rfl, ?hy0⟩) hT hS ?_
            case hy0 => (intro w' hT'; (try unfold T8 at hT'); (try unfold S8 at hT'); go_simp; (try with_reducible rfl))
            try simp only [Act.put, List.setIfInBounds_toArray, List.set_cons_zero, List.set_cons_succ]
            refine two_takeT 1 (some 51) (v := ?_) rfl rfl (by kernel_rfl) (by kernel_rfl) (by kernel_rfl) (by decide) (fun _ _ _ h => h) (Or.inl ⟨by rfl, ?hy1⟩) hT hS ?_
            case hy1 => (intro w' hT'; (try unfold T8 at hT'); (try unfold S8 at hT'); go_simp; (try with_reducible rfl))
            try simp only [Act.put, List.setIfInBounds_toArray, List.set_cons_zero, List.set_cons_succ]
            obtain ⟨_, _, _, g0, g1, g2⟩ := blk3 K3c.out
            refine two_one 2 rfl (by kernel_rfl) ?_
            intro K hK
            go_simp
            obtain ⟨y2, hy2⟩ : ∃ y2, y2 = ((y1.setCell ⟨p3, 0, none⟩ (.slice axA sn acA)).setCell ⟨p3, 1, none⟩ (.int .i64 s2.log)).setCell ⟨p3, 2, none⟩ (.int .i64 s2.next) := ⟨_, rfl⟩
            rw [← hy2]
            obtain ⟨z1, z2⟩ := three_set K3c.out y2 hy2
            have hqa : ¬ qa = p3 ∧ ¬ qb = p3 ∧ ¬ qa = p3 + 1 ∧ ¬ qb = p3 + 1 := HQX.out
            have hT1 : (y2.cell? ⟨qa, 0, none⟩ = some (.slice axA sn acA) ∧ y2.cell? ⟨qa, 1, none⟩ = some (.int .i64 s2.log) ∧ y2.cell? ⟨qa, 2, none⟩ = some (.int .i64 s2.next)) ∧ y2.cell? ⟨qb, 0, none⟩ = some (.slice axB sn acB) ∧ y2.cell? ⟨qb, 1, none⟩ = some (.int .i64 s2.log) ∧ y2.cell? ⟨qb, 2, none⟩ = some (.int .i64 s2.next) := by
              have hla := (HQA.out.below HB1c.out).lt
              have hlb := (KQB.out.below HB1c.out).lt
              exact ⟨⟨(z2.cell (p := ⟨qa, 0, none⟩) hla hqa.1).trans hT.1.1, (z2.cell (p := ⟨qa, 1, none⟩) hla hqa.1).trans hT.1.2.1, (z2.cell (p := ⟨qa, 2, none⟩) hla hqa.1).trans hT.1.2.2⟩, (z2.cell (p := ⟨qb, 0, none⟩) hlb hqa.2.1).trans hT.2.1, (z2.cell (p := ⟨qb, 1, none⟩) hlb hqa.2.1).trans hT.2.2.1, (z2.cell (p := ⟨qb, 2, none⟩) hlb hqa.2.1).trans hT.2.2.2⟩
            refine hK.out _ _ hT1 (fun _ _ => hS) ?_
            have K3d := Lib.hid z1
            have K4d := Lib.hid (K4c.out.chg z2 (by omega))
            have HC2 := Lib.hid z2
            have hz2 := z2.size
            clear hK K hT hy2 z1 z2 g0 g1 g2
            have hT := hT1
            clear hT1
            try simp only [Act.put, List.setIfInBounds_toArray, List.set_cons_zero, List.set_cons_succ]
            obtain ⟨_, _, _, g0, g1, g2⟩ := blk3 K4d.out
            refine two_one 3 rfl (by kernel_rfl) ?_
            intro K hK
            go_simp
            obtain ⟨y3, hy3⟩ : ∃ y3, y3 = ((y2.setCell ⟨p3 + 1, 0, none⟩ (.slice axB sn acB)).setCell ⟨p3 + 1, 1, none⟩ (.int .i64 s2.log)).setCell ⟨p3 + 1, 2, none⟩ (.int .i64 s2.next) := ⟨_, rfl⟩
            rw [← hy3]
            obtain ⟨z1, z2⟩ := three_set K4d.out y3 hy3
            have hT1 : (y3.cell? ⟨qa, 0, none⟩ = some (.slice axA sn acA) ∧ y3.cell? ⟨qa, 1, none⟩ = some (.int .i64 s2.log) ∧ y3.cell? ⟨qa, 2, none⟩ = some (.int .i64 s2.next)) ∧ y3.cell? ⟨qb, 0, none⟩ = some (.slice axB sn acB) ∧ y3.cell? ⟨qb, 1, none⟩ = some (.int .i64 s2.log) ∧ y3.cell? ⟨qb, 2, none⟩ = some (.int .i64 s2.next) := by
              have hla := (HQA.out.below HB1c.out).lt
              have hlb := (KQB.out.below HB1c.out).lt
              exact ⟨⟨(z2.cell (p := ⟨qa, 0, none⟩) (Nat.lt_of_lt_of_le hla hz2) hqa.2.2.1).trans hT.1.1, (z2.cell (p := ⟨qa, 1, none⟩) (Nat.lt_of_lt_of_le hla hz2) hqa.2.2.1).trans hT.1.2.1, (z2.cell (p := ⟨qa, 2, none⟩) (Nat.lt_of_lt_of_le hla hz2) hqa.2.2.1).trans hT.1.2.2⟩, (z2.cell (p := ⟨qb, 0, none⟩) (Nat.lt_of_lt_of_le hlb hz2) hqa.2.2.2).trans hT.2.1, (z2.cell (p := ⟨qb, 1, none⟩) (Nat.lt_of_lt_of_le hlb hz2) hqa.2.2.2).trans hT.2.2.1, (z2.cell (p := ⟨qb, 2, none⟩) (Nat.lt_of_lt_of_le hlb hz2) hqa.2.2.2).trans hT.2.2.2⟩
            refine hK.out _ _ hT1 (fun _ e => absurd rfl e) ?_
            refine two_done (by kernel_rfl) ?_ _
            have K4e := Lib.hid z1
            have K3e := Lib.hid (K3d.out.chg z2 (by omega))
            have HCE := Lib.hid (show Chg (fun g => g = p3 ∨ g = p3 + 1) wb y3 from (Chg.of_below HB1c.out).trans ((HC2.out.mono fun g _ h => .inl h).trans (z2.mono fun g _ h => .inr h)))
            have hze := HCE.out.size
            have HBe := Lib.hid (show Below w.heap.size w y3 from HBb.out.trans (HCE.out.below HBb.out.size (fun g hg e => by omega)))
            have HOWe := Lib.hid ((Hown.out.below HBwb.out).chg HCE.out (fun g e => by omega))
            clear hK K hT hT1 hy3 z1 z2 g0 g1 g2 hS hqa
            obtain ⟨c0', c1', c2', c3', c4'⟩ := HCL.out y3 HBe.out
            have HAVe := Lib.hid (HAV.out.chg HCE.out (fun g e => by omega))
            have HBVe := Lib.hid (HBV.out.chg HCE.out (fun g e => by show g < wr.heap.size; omega))
            have HOB := Lib.hid (World.ownsRow.lt Hown.out.row)
            have HFe := Lib.hid ((HFL.out.base).chg (Chg.of_below (S := fun _ => False) HBe.out) (fun _ e => e.elim))
            obtain ⟨y4, hy4⟩ : ∃ y4, y4 = y3.alloc (.cells #[.int .i64 kind, .int .i64 at_, .int .i64 file, .slice fx fn fc, .string key] 74 (0, 0)) := ⟨_, rfl⟩
            have hbl4 : Blk y4 y3.heap.size 74 #[.int .i64 kind, .int .i64 at_, .int .i64 file, .slice fx fn fc, .string key] := by rw [hy4]; exact Blk.alloc_new _ _ _
            have hb4 : Below y3.heap.size y3 y4 := by rw [hy4]; exact (Below.refl _ _).alloc (Nat.le_refl _) _
            have HOW4 := Lib.hid (HOWe.out.below hb4)
            have HF4 := Lib.hid (HFe.out.below hb4)
            have Hb4 := Lib.hid hb4
            have HBL4 := Lib.hid hbl4
            have hz4 := hb4.size
            rw [hy4] at HOW4 HBL4 HF4 hz4
            have HY4 := Lib.hid hy4
            clear hy4 hbl4 hb4
            have HSRC := Lib.hid (show ∃ z c, Value.slice (some ⟨y3.heap.size, 0, none⟩) 1 1 = .slice z ([⟨kind, at_, file, files, key⟩] : List Ed.Edit).length c ∧ (0 < ([⟨kind, at_, file, files, key⟩] : List Ed.Edit).length → ∃ b, z = some ⟨b, 0, none⟩ ∧ ∀ i u, ((([⟨kind, at_, file, files, key⟩] : List Ed.Edit).zip ([.slice fx fn fc] : List Value)).flatMap fun p => edRow p.1 p.2)[i]? = some u → (y3.alloc (.cells #[.int .i64 kind, .int .i64 at_, .int .i64 file, .slice fx fn fc, .string key] 74 (0, 0))).cell? ⟨b, i, none⟩ = some u) from
              ⟨_, 1, rfl, fun _ => ⟨y3.heap.size, rfl, fun i u hu => blk_row HBL4.out rfl i u (by simpa [edRow] using hu)⟩⟩)
            have HRB4 := Lib.hid (show ∀ (j : Nat) (hj : j < ([⟨kind, at_, file, files, key⟩] : List Ed.Edit).length) (hj' : j < ([.slice fx fn fc] : List Value).length), RdIB (y3.alloc (.cells #[.int .i64 kind, .int .i64 at_, .int .i64 file, .slice fx fn fc, .string key] 74 (0, 0))) w.heap.size ([.slice fx fn fc] : List Value)[j] ([⟨kind, at_, file, files, key⟩] : List Ed.Edit)[j].files from fun j hj hj' => by
              obtain rfl : j = 0 := by simp at hj; omega
              exact HF4.out)
            have hdl1 : d.length + 1 ≤ 1000000 := by have := Hdl.out; omega
            go_wp2_with (at_builtin; refine wpList_append_eb rfl (.tmp 52) (.tmp 57) rfl w.heap.size (p3 + 2) _ fvs d rfl HOW4.out _ rfl _ _ HSRC.out rfl HRB4.out hdl1 (by omega) (by omega) ?_)
            intro v' y5 ho5 hb5 hc5
            rw [← HY4.out] at hb5 hc5
            have HO5 := Lib.hid ho5
            have HB5' := Lib.hid hb5
            have HC5 := Lib.hid (show Chg (fun g => u5.ownBlock = some g) y3 y5 from (Chg.of_below Hb4.out).trans hc5)
            have hz5 := HC5.out.size
            clear ho5 hb5 hc5 c0' c1' c2' c3' c4'
            have hnp : ∀ g, u5.ownBlock = some g → p3 + 2 ≤ g ∧ g < wr.heap.size := fun g hg => HOB.out g hg
            have K3f := Lib.hid (K3e.out.chg HC5.out (fun e => by have := hnp _ e; omega))
            have K4f := Lib.hid (K4e.out.chg HC5.out (fun e => by have := hnp _ e; omega))
            have HAVf := Lib.hid (HAVe.out.chg HC5.out (fun g e => (hnp g e).2))
            have HBVf := Lib.hid (HBVe.out.chg HC5.out (fun g e => (hnp g e).2))
            have HBf := Lib.hid (show Below w.heap.size w y5 from HBe.out.trans (HC5.out.below HBe.out.size (fun g hg e => by have := hnp g e; omega)))
            obtain ⟨a0, a1, a2, _⟩ := blk3 K3f.out
            obtain ⟨g0, g1, g2, _⟩ := blk3 K4f.out
            have HSS := Lib.hid (sameState_any (.slice axA sn acA) (.slice axB sn acB) s2 s2 y5 HAVf.out.rd HBVf.out.rd.rd (valid_fits HV2.out) (valid_fits HV2.out))
            rw [sameB_me] at HSS
            unfold stV at HSS
            clear hnp
            go_wp2_with fail
            refine HSS.out.mono ?_
            rintro e wz ⟨rfl, hbz⟩
            have HBz := Lib.hid hbz
            clear a0 a1 a2 g0 g1 g2 hbz
            go_wp2_with fail
            go_roundw
            case rel => exact ⟨k + 1, s2, d ++ [⟨kind, at_, file, files, key⟩], fvs ++ [.slice fx fn fc], _, _, by go_num, by omega, HO5.out.below HBz.out, K3f.out.below HBz.out, K4f.out.below HBz.out, HAVf.out.rd.below HBz.out, HBVf.out.rd.below HBz.out, HV2.out, by rw [allQ_snoc, Hall.out]; exact HAP2.out, by have := Hdl.out; simp; omega, fun j hj => (by
              by_cases hjd : j < d.length
              · rw [List.getElem_append_left hjd]; exact Hdok.out j hjd
              · obtain rfl : j = d.length := by simp at hj; omega
                rw [List.getElem_append_right (by omega)]
                simp only [Nat.sub_self, List.getElem_cons_zero]
                exact HOKk.out), HBf.out.trans (HBz.out.mono HBf.out.size)⟩
            case measure => simp [intOf]; omega
        · intro K hK
          go_simp
          obtain ⟨y2, hy2⟩ : ∃ y2, y2 = y1.alloc (.cells #[.slice none 0 0, .int .i64 0, .int .i64 0] 67 (0, 0)) := ⟨_, rfl⟩
          rw [← hy2]
          obtain ⟨qb, hq⟩ : ∃ q, q = y1.heap.size := ⟨_, rfl⟩
          rw [← hq]
          have hb2 : Below y1.heap.size y1 y2 := by rw [hy2]; exact (Below.refl _ _).alloc (Nat.le_refl _) _
          have hbq2 : Blk y2 qb 67 #[.slice none 0 0, .int .i64 0, .int .i64 0] := by rw [hq, hy2]; exact Blk.alloc_new _ _ _
          have hT1 : S8 y2 (p3 + 1) (.slice wx tn wc) st.log st.next eb (eo + k * 5) kind at_ file (.slice fx fn fc) key := S8.below hT hb2 (by omega) (by omega)
          refine hK.out _ _ hT1 (fun _ _ => hS) ?_
          have hz2 := hb2.size
          have hql := hbq2.lt
          have hq2 : y1.heap.size ≤ qb := Nat.le_of_eq hq.symm
          clear hK K hT hy2 hq
          have hT := hT1
          clear hT1
          try simp only [Act.put, List.setIfInBounds_toArray, List.set_cons_zero, List.set_cons_succ]
          refine two_one 5 rfl (by kernel_rfl) ?_
          intro K hK
          go_simp
          refine (HAR.out y2 (hb1r.trans (hb2.mono hzy))).mono ?_
          rintro e y3 ⟨axB, anB, acB, rfl, hb3, har⟩
          have hT1 : S8 y3 (p3 + 1) (.slice wx tn wc) st.log st.next eb (eo + k * 5) kind at_ file (.slice fx fn fc) key := S8.below hT hb3 (by omega) (by omega)
          refine hK.out _ _ hT1 (fun _ _ => hS) ?_
          have hbq := hbq2.below hb3
          have hz3 := hb3.size
          clear hK K hT hbq2
          have hT := hT1
          clear hT1
          try simp only [Act.put, List.setIfInBounds_toArray, List.set_cons_zero, List.set_cons_succ]
          refine two_takeT 6 (some 37) (v := ?_) rfl rfl (by kernel_rfl) (by kernel_rfl) (by kernel_rfl) (by decide) (fun _ _ _ h => h) (Or.inl ⟨by rfl, ?hy6⟩) hT hS ?_
          case hy6 => (intro w' hT'; (try unfold T8 at hT'); (try unfold S8 at hT'); go_simp; (try with_reducible rfl))
          try simp only [Act.put, List.setIfInBounds_toArray, List.set_cons_zero, List.set_cons_succ]
          refine two_takeT 7 (some 44) (v := ?_) rfl rfl (by kernel_rfl) (by kernel_rfl) (by kernel_rfl) (by decide) (fun _ _ _ h => h) (Or.inl ⟨by rfl, ?hy7⟩) hT hS ?_
          case hy7 => (intro w' hT'; (try unfold T8 at hT'); (try unfold S8 at hT'); go_simp; (try with_reducible rfl))
          try simp only [Act.put, List.setIfInBounds_toArray, List.set_cons_zero, List.set_cons_succ]
          refine two_takeT 8 (some 45) (v := ?_) rfl rfl (by kernel_rfl) (by kernel_rfl) (by kernel_rfl) (by decide) (fun _ _ _ h => h) (Or.inl ⟨by rfl, ?hy8⟩) hT hS ?_
          case hy8 => (intro w' hT'; (try unfold T8 at hT'); (try unfold S8 at hT'); go_simp; (try with_reducible rfl))
          try simp only [Act.put, List.setIfInBounds_toArray, List.set_cons_zero, List.set_cons_succ]
          obtain ⟨_, _, _, g0, g1, g2⟩ := blk3 hbq
          refine two_one 10 rfl (by kernel_rfl) ?_
          intro K hK
          go_simp
          obtain ⟨wb, hy4⟩ : ∃ y4, y4 = ((y3.setCell ⟨qb, 0, none⟩ (.slice axB anB acB)).setCell ⟨qb, 1, none⟩ (.int .i64 rl)).setCell ⟨qb, 2, none⟩ (.int .i64 rn) := ⟨_, rfl⟩
          rw [← hy4]
          obtain ⟨z1, z2⟩ := three_set hbq wb hy4
          have hb1z : Below y1.heap.size y1 wb := (hb2.trans (hb3.mono hz2)).trans (z2.below (by omega) fun g hg e => by omega)
          have hT1 : S8 wb (p3 + 1) (.slice wx tn wc) st.log st.next eb (eo + k * 5) kind at_ file (.slice fx fn fc) key := S8.below HT0.out hb1z (by omega) (by omega)
          refine hK.out _ _ hT1 (fun _ _ => hS) ?_
          have KQB := Lib.hid z1
          have HRB := Lib.hid (ApRdC.weak (B' := wr.heap.size) (ApRdC.chg har z2 (fun g e => by omega)) (by omega))
          have HBwb := Lib.hid (show Below wr.heap.size wr wb from hb1r.trans (hb1z.mono hzy))
          have HQBl := Lib.hid (show wr.heap.size ≤ qb by omega)
          have HBab := Lib.hid (show Below wa.heap.size wa wb from hb1.trans (hb1z.mono hb1.size))
          clear hK K hT hy4 z1 z2 hb3 hbq g0 g1 g2 har hb2 hb1z hb1 hb1r hry hql hz3
          have hT := hT1
          clear hT1
          try simp only [Act.put, List.setIfInBounds_toArray, List.set_cons_zero, List.set_cons_succ]
          refine two_one 11 rfl (by kernel_rfl) ?_
          intro K hK
          go_simp
          refine hK.out _ _ hT (fun _ _ => hS) ?_
          clear hK K
          try simp only [Act.put, List.setIfInBounds_toArray, List.set_cons_zero, List.set_cons_succ]
          refine two_done (by kernel_rfl) ?_ _
          clear hT hS HT0 hq2 hz2 hzy
          have HBb := Lib.hid (Hbe.out.trans (HBwb.out.mono Hbe.out.size))
          have HQA := Lib.hid (KQA.out.below HBab.out)
          have hzb := HBwb.out.size
          have HQY := Lib.hid (show ¬ qa = p3 ∧ ¬ qb = p3 ∧ ¬ qa = p3 + 1 ∧ ¬ qb = p3 + 1 by have := HQAl.out; have := HQBl.out; omega)
          cases ro with
          | false =>
            have K3b := Lib.hid (Hk3.out.below HBwb.out)
            have K4b := Lib.hid (Hk4.out.below HBwb.out)
            obtain ⟨a0, a1, a2, _⟩ := blk3 K3b.out
            obtain ⟨g0, g1, g2, _⟩ := blk3 K4b.out
            have HSS := Lib.hid (sameState_any (.slice sx tn sc) (.slice wx tn wc) st st wb (Hrd.out.below HBwb.out) (Hrc.out.rd.below HBwb.out) (valid_fits Hv.out) (valid_fits Hv.out))
            rw [sameB_me] at HSS
            unfold stV at HSS
            go_wp2_with fail
            refine HSS.out.mono ?_
            rintro e wz ⟨rfl, hbz⟩
            have HBz := Lib.hid (HBwb.out.trans (hbz.mono HBwb.out.size))
            clear a0 a1 a2 g0 g1 g2 hbz
            go_wp2_with fail
            go_roundw
            case rel => exact ⟨k + 1, st, d, fvs, _, _, by go_num, by omega, Hown.out.below HBz.out, Hk3.out.below HBz.out, Hk4.out.below HBz.out, Hrd.out.below HBz.out, Hrc.out.below HBz.out, Hv.out, Hall.out, by have := Hdl.out; omega, Hdok.out, Hbe.out.trans (HBz.out.mono Hbe.out.size)⟩
            case measure => simp [intOf]; omega
          | true =>
            obtain ⟨s2, hs2⟩ : ∃ s2, R = some s2 := by
              have h9 := HRO.out
              cases R with
              | none => cases h9
              | some s2 => exact ⟨s2, rfl⟩
            have hrl2 : rl = s2.log := by rw [HRL.out, hs2]; rfl
            have hrn2 : rn = s2.next := by rw [HRN.out, hs2]; rfl
            have HRA2 := HRA.out
            have HRB2 := HRB.out
            rw [hs2] at HRA2 HRB2
            have HAP2 := Lib.hid (show Ed.applyP st ⟨kind, at_, file, files, key⟩ = some s2 by rw [← HR.out, hs2])
            obtain ⟨sn, hsn⟩ : ∃ sn, sn = s2.l.length := ⟨_, rfl⟩
            have han : sn = anA := hsn.trans (rdT_len' (RdTB.rd HRA2)).symm
            have hbn : sn = anB := hsn.trans (rdT_len' (RdTC.rd (RdTCN.rd HRB2))).symm
            subst han hbn
            subst hrl2 hrn2
            have HAV := Lib.hid (RdTB.chg HRA2 (S := fun _ => False) (Chg.of_below HBab.out) (fun _ e => e.elim))
            have HBV := Lib.hid (show RdTCN wb (fun g => g < wr.heap.size) (.slice axB sn acB) s2.l from HRB2)
            have HQX := Lib.hid (show ¬ qa = p3 ∧ ¬ qb = p3 ∧ ¬ qa = p3 + 1 ∧ ¬ qb = p3 + 1 from HQY.out)
            have HV2 := Lib.hid (applyP_valid HAP2.out)
            clear HRA2 HRB2 hs2 hsn
            have K3b := Lib.hid (Hk3.out.below HBwb.out)
            have K4b := Lib.hid (Hk4.out.below HBwb.out)
            obtain ⟨a0, a1, a2, _⟩ := blk3 HQA.out
            obtain ⟨g0, g1, g2, _⟩ := blk3 KQB.out
            go_wp2_with fail
            refine wp_region_two (T := fun W => (W.cell? ⟨qa, 0, none⟩ = some (.slice axA sn acA) ∧ W.cell? ⟨qa, 1, none⟩ = some (.int .i64 s2.log) ∧ W.cell? ⟨qa, 2, none⟩ = some (.int .i64 s2.next)) ∧ W.cell? ⟨qb, 0, none⟩ = some (.slice axB sn acB) ∧ W.cell? ⟨qb, 1, none⟩ = some (.int .i64 s2.log) ∧ W.cell? ⟨qb, 2, none⟩ = some (.int .i64 s2.next)) (S := fun _ => True) (n := 3) (by kernel_rfl) ?_
            obtain ⟨y1, hy1⟩ : ∃ y1, y1 = wb.drew := ⟨_, rfl⟩
            rw [← hy1]
            have hb1 : Below wb.heap.size wb y1 := by rw [hy1]; exact (Below.refl _ _).drew
            have hT : (y1.cell? ⟨qa, 0, none⟩ = some (.slice axA sn acA) ∧ y1.cell? ⟨qa, 1, none⟩ = some (.int .i64 s2.log) ∧ y1.cell? ⟨qa, 2, none⟩ = some (.int .i64 s2.next)) ∧ y1.cell? ⟨qb, 0, none⟩ = some (.slice axB sn acB) ∧ y1.cell? ⟨qb, 1, none⟩ = some (.int .i64 s2.log) ∧ y1.cell? ⟨qb, 2, none⟩ = some (.int .i64 s2.next) := by
              rw [hy1]; exact ⟨⟨a0, a1, a2⟩, g0, g1, g2⟩
            have hS : True := trivial
            have K3c := Lib.hid (K3b.out.below hb1)
            have K4c := Lib.hid (K4b.out.below hb1)
            have HB1c := Lib.hid hb1
            have hz1 := hb1.size
            clear a0 a1 a2 g0 g1 g2 hy1 hb1
            refine two_takeT 0 (some 50) (v := ?_) rfl rfl (by kernel_rfl) (by kernel_rfl) (by kernel_rfl) (by decide) (fun _ _ _ h => h) (Or.inl ⟨by rfl, ?hy0⟩) hT hS ?_
            case hy0 => (intro w' hT'; (try unfold T8 at hT'); (try unfold S8 at hT'); go_simp; (try with_reducible rfl))
            try simp only [Act.put, List.setIfInBounds_toArray, List.set_cons_zero, List.set_cons_succ]
            refine two_takeT 1 (some 51) (v := ?_) rfl rfl (by kernel_rfl) (by kernel_rfl) (by kernel_rfl) (by decide) (fun _ _ _ h => h) (Or.inl ⟨by rfl, ?hy1⟩) hT hS ?_
            case hy1 => (intro w' hT'; (try unfold T8 at hT'); (try unfold S8 at hT'); go_simp; (try with_reducible rfl))
            try simp only [Act.put, List.setIfInBounds_toArray, List.set_cons_zero, List.set_cons_succ]
            obtain ⟨_, _, _, g0, g1, g2⟩ := blk3 K3c.out
            refine two_one 2 rfl (by kernel_rfl) ?_
            intro K hK
            go_simp
            obtain ⟨y2, hy2⟩ : ∃ y2, y2 = ((y1.setCell ⟨p3, 0, none⟩ (.slice axA sn acA)).setCell ⟨p3, 1, none⟩ (.int .i64 s2.log)).setCell ⟨p3, 2, none⟩ (.int .i64 s2.next) := ⟨_, rfl⟩
            rw [← hy2]
            obtain ⟨z1, z2⟩ := three_set K3c.out y2 hy2
            have hqa : ¬ qa = p3 ∧ ¬ qb = p3 ∧ ¬ qa = p3 + 1 ∧ ¬ qb = p3 + 1 := HQX.out
            have hT1 : (y2.cell? ⟨qa, 0, none⟩ = some (.slice axA sn acA) ∧ y2.cell? ⟨qa, 1, none⟩ = some (.int .i64 s2.log) ∧ y2.cell? ⟨qa, 2, none⟩ = some (.int .i64 s2.next)) ∧ y2.cell? ⟨qb, 0, none⟩ = some (.slice axB sn acB) ∧ y2.cell? ⟨qb, 1, none⟩ = some (.int .i64 s2.log) ∧ y2.cell? ⟨qb, 2, none⟩ = some (.int .i64 s2.next) := by
              have hla := (HQA.out.below HB1c.out).lt
              have hlb := (KQB.out.below HB1c.out).lt
              exact ⟨⟨(z2.cell (p := ⟨qa, 0, none⟩) hla hqa.1).trans hT.1.1, (z2.cell (p := ⟨qa, 1, none⟩) hla hqa.1).trans hT.1.2.1, (z2.cell (p := ⟨qa, 2, none⟩) hla hqa.1).trans hT.1.2.2⟩, (z2.cell (p := ⟨qb, 0, none⟩) hlb hqa.2.1).trans hT.2.1, (z2.cell (p := ⟨qb, 1, none⟩) hlb hqa.2.1).trans hT.2.2.1, (z2.cell (p := ⟨qb, 2, none⟩) hlb hqa.2.1).trans hT.2.2.2⟩
            refine hK.out _ _ hT1 (fun _ _ => hS) ?_
            have K3d := Lib.hid z1
            have K4d := Lib.hid (K4c.out.chg z2 (by omega))
            have HC2 := Lib.hid z2
            have hz2 := z2.size
            clear hK K hT hy2 z1 z2 g0 g1 g2
            have hT := hT1
            clear hT1
            try simp only [Act.put, List.setIfInBounds_toArray, List.set_cons_zero, List.set_cons_succ]
            obtain ⟨_, _, _, g0, g1, g2⟩ := blk3 K4d.out
            refine two_one 3 rfl (by kernel_rfl) ?_
            intro K hK
            go_simp
            obtain ⟨y3, hy3⟩ : ∃ y3, y3 = ((y2.setCell ⟨p3 + 1, 0, none⟩ (.slice axB sn acB)).setCell ⟨p3 + 1, 1, none⟩ (.int .i64 s2.log)).setCell ⟨p3 + 1, 2, none⟩ (.int .i64 s2.next) := ⟨_, rfl⟩
            rw [← hy3]
            obtain ⟨z1, z2⟩ := three_set K4d.out y3 hy3
            have hT1 : (y3.cell? ⟨qa, 0, none⟩ = some (.slice axA sn acA) ∧ y3.cell? ⟨qa, 1, none⟩ = some (.int .i64 s2.log) ∧ y3.cell? ⟨qa, 2, none⟩ = some (.int .i64 s2.next)) ∧ y3.cell? ⟨qb, 0, none⟩ = some (.slice axB sn acB) ∧ y3.cell? ⟨qb, 1, none⟩ = some (.int .i64 s2.log) ∧ y3.cell? ⟨qb, 2, none⟩ = some (.int .i64 s2.next) := by
              have hla := (HQA.out.below HB1c.out).lt
              have hlb := (KQB.out.below HB1c.out).lt
              exact ⟨⟨(z2.cell (p := ⟨qa, 0, none⟩) (Nat.lt_of_lt_of_le hla hz2) hqa.2.2.1).trans hT.1.1, (z2.cell (p := ⟨qa, 1, none⟩) (Nat.lt_of_lt_of_le hla hz2) hqa.2.2.1).trans hT.1.2.1, (z2.cell (p := ⟨qa, 2, none⟩) (Nat.lt_of_lt_of_le hla hz2) hqa.2.2.1).trans hT.1.2.2⟩, (z2.cell (p := ⟨qb, 0, none⟩) (Nat.lt_of_lt_of_le hlb hz2) hqa.2.2.2).trans hT.2.1, (z2.cell (p := ⟨qb, 1, none⟩) (Nat.lt_of_lt_of_le hlb hz2) hqa.2.2.2).trans hT.2.2.1, (z2.cell (p := ⟨qb, 2, none⟩) (Nat.lt_of_lt_of_le hlb hz2) hqa.2.2.2).trans hT.2.2.2⟩
            refine hK.out _ _ hT1 (fun _ e => absurd rfl e) ?_
            refine two_done (by kernel_rfl) ?_ _
            have K4e := Lib.hid z1
            have K3e := Lib.hid (K3d.out.chg z2 (by omega))
            have HCE := Lib.hid (show Chg (fun g => g = p3 ∨ g = p3 + 1) wb y3 from (Chg.of_below HB1c.out).trans ((HC2.out.mono fun g _ h => .inl h).trans (z2.mono fun g _ h => .inr h)))
            have hze := HCE.out.size
            have HBe := Lib.hid (show Below w.heap.size w y3 from HBb.out.trans (HCE.out.below HBb.out.size (fun g hg e => by omega)))
            have HOWe := Lib.hid ((Hown.out.below HBwb.out).chg HCE.out (fun g e => by omega))
            clear hK K hT hT1 hy3 z1 z2 g0 g1 g2 hS hqa
            obtain ⟨c0', c1', c2', c3', c4'⟩ := HCL.out y3 HBe.out
            have HAVe := Lib.hid (HAV.out.chg HCE.out (fun g e => by omega))
            have HBVe := Lib.hid (HBV.out.chg HCE.out (fun g e => by show g < wr.heap.size; omega))
            have HOB := Lib.hid (World.ownsRow.lt Hown.out.row)
            have HFe := Lib.hid ((HFL.out.base).chg (Chg.of_below (S := fun _ => False) HBe.out) (fun _ e => e.elim))
            obtain ⟨y4, hy4⟩ : ∃ y4, y4 = y3.alloc (.cells #[.int .i64 kind, .int .i64 at_, .int .i64 file, .slice fx fn fc, .string key] 74 (0, 0)) := ⟨_, rfl⟩
            have hbl4 : Blk y4 y3.heap.size 74 #[.int .i64 kind, .int .i64 at_, .int .i64 file, .slice fx fn fc, .string key] := by rw [hy4]; exact Blk.alloc_new _ _ _
            have hb4 : Below y3.heap.size y3 y4 := by rw [hy4]; exact (Below.refl _ _).alloc (Nat.le_refl _) _
            have HOW4 := Lib.hid (HOWe.out.below hb4)
            have HF4 := Lib.hid (HFe.out.below hb4)
            have Hb4 := Lib.hid hb4
            have HBL4 := Lib.hid hbl4
            have hz4 := hb4.size
            rw [hy4] at HOW4 HBL4 HF4 hz4
            have HY4 := Lib.hid hy4
            clear hy4 hbl4 hb4
            have HSRC := Lib.hid (show ∃ z c, Value.slice (some ⟨y3.heap.size, 0, none⟩) 1 1 = .slice z ([⟨kind, at_, file, files, key⟩] : List Ed.Edit).length c ∧ (0 < ([⟨kind, at_, file, files, key⟩] : List Ed.Edit).length → ∃ b, z = some ⟨b, 0, none⟩ ∧ ∀ i u, ((([⟨kind, at_, file, files, key⟩] : List Ed.Edit).zip ([.slice fx fn fc] : List Value)).flatMap fun p => edRow p.1 p.2)[i]? = some u → (y3.alloc (.cells #[.int .i64 kind, .int .i64 at_, .int .i64 file, .slice fx fn fc, .string key] 74 (0, 0))).cell? ⟨b, i, none⟩ = some u) from
              ⟨_, 1, rfl, fun _ => ⟨y3.heap.size, rfl, fun i u hu => blk_row HBL4.out rfl i u (by simpa [edRow] using hu)⟩⟩)
            have HRB4 := Lib.hid (show ∀ (j : Nat) (hj : j < ([⟨kind, at_, file, files, key⟩] : List Ed.Edit).length) (hj' : j < ([.slice fx fn fc] : List Value).length), RdIB (y3.alloc (.cells #[.int .i64 kind, .int .i64 at_, .int .i64 file, .slice fx fn fc, .string key] 74 (0, 0))) w.heap.size ([.slice fx fn fc] : List Value)[j] ([⟨kind, at_, file, files, key⟩] : List Ed.Edit)[j].files from fun j hj hj' => by
              obtain rfl : j = 0 := by simp at hj; omega
              exact HF4.out)
            have hdl1 : d.length + 1 ≤ 1000000 := by have := Hdl.out; omega
            go_wp2_with (at_builtin; refine wpList_append_eb rfl (.tmp 52) (.tmp 57) rfl w.heap.size (p3 + 2) _ fvs d rfl HOW4.out _ rfl _ _ HSRC.out rfl HRB4.out hdl1 (by omega) (by omega) ?_)
            intro v' y5 ho5 hb5 hc5
            rw [← HY4.out] at hb5 hc5
            have HO5 := Lib.hid ho5
            have HB5' := Lib.hid hb5
            have HC5 := Lib.hid (show Chg (fun g => u5.ownBlock = some g) y3 y5 from (Chg.of_below Hb4.out).trans hc5)
            have hz5 := HC5.out.size
            clear ho5 hb5 hc5 c0' c1' c2' c3' c4'
            have hnp : ∀ g, u5.ownBlock = some g → p3 + 2 ≤ g ∧ g < wr.heap.size := fun g hg => HOB.out g hg
            have K3f := Lib.hid (K3e.out.chg HC5.out (fun e => by have := hnp _ e; omega))
            have K4f := Lib.hid (K4e.out.chg HC5.out (fun e => by have := hnp _ e; omega))
            have HAVf := Lib.hid (HAVe.out.chg HC5.out (fun g e => (hnp g e).2))
            have HBVf := Lib.hid (HBVe.out.chg HC5.out (fun g e => (hnp g e).2))
            have HBf := Lib.hid (show Below w.heap.size w y5 from HBe.out.trans (HC5.out.below HBe.out.size (fun g hg e => by have := hnp g e; omega)))
            obtain ⟨a0, a1, a2, _⟩ := blk3 K3f.out
            obtain ⟨g0, g1, g2, _⟩ := blk3 K4f.out
            have HSS := Lib.hid (sameState_any (.slice axA sn acA) (.slice axB sn acB) s2 s2 y5 HAVf.out.rd HBVf.out.rd.rd (valid_fits HV2.out) (valid_fits HV2.out))
            rw [sameB_me] at HSS
            unfold stV at HSS
            clear hnp
            go_wp2_with fail
            refine HSS.out.mono ?_
            rintro e wz ⟨rfl, hbz⟩
            have HBz := Lib.hid hbz
            clear a0 a1 a2 g0 g1 g2 hbz
            go_wp2_with fail
            go_roundw
            case rel => exact ⟨k + 1, s2, d ++ [⟨kind, at_, file, files, key⟩], fvs ++ [.slice fx fn fc], _, _, by go_num, by omega, HO5.out.below HBz.out, K3f.out.below HBz.out, K4f.out.below HBz.out, HAVf.out.rd.below HBz.out, HBVf.out.rd.below HBz.out, HV2.out, by rw [allQ_snoc, Hall.out]; exact HAP2.out, by have := Hdl.out; simp; omega, fun j hj => (by
              by_cases hjd : j < d.length
              · rw [List.getElem_append_left hjd]; exact Hdok.out j hjd
              · obtain rfl : j = d.length := by simp at hj; omega
                rw [List.getElem_append_right (by omega)]
                simp only [Nat.sub_self, List.getElem_cons_zero]
                exact HOKk.out), HBf.out.trans (HBz.out.mono HBf.out.size)⟩
            case measure => simp [intOf]; omega
    · obtain rfl : k = n := by omega
      obtain ⟨dx, dc, hdv, hcells⟩ := Hown.out.cells
      subst hdv
      have hdl40 : d.length ≤ 40 := by have := Hdl.out; omega
      have HE99 := Lib.hid (show EdOk ⟨99, 0, 0, [], ⟨#[]⟩⟩ from ⟨Nat.zero_le _, Nat.zero_le _, by show _ ≤ (0 : Int) ∧ (0 : Int) ≤ _; omega⟩)
      have HQ1 := Lib.hid (show allQ st0 d = some st by unfold allQ; rw [if_pos (show Ed.Valid st0 from behind_valid [])]; exact Hall.out)
      have HQ2 := Lib.hid (show allQ st0 (d ++ [⟨99, 0, 0, [], ⟨#[]⟩⟩]) = none by
        unfold allQ
        rw [if_pos (show Ed.Valid st0 from behind_valid []), allQ_snoc, Hall.out]
        show Ed.applyP st _ = none
        unfold Ed.applyP
        split
        · have e1 : Ed.doesP st ⟨99, 0, 0, [], ⟨#[]⟩⟩ = none := by
            unfold Ed.doesP
            rw [if_neg (by decide)]
            split
            · rw [if_neg (by decide), if_neg (by decide), if_neg (by decide), if_neg (by decide)]
            · rfl
          rw [e1]
        · rfl)
      have Hcells := Lib.hid hcells
      clear hcells
      go_wp2_with fail
      refine (first_any wr).mono ?_
      rintro e y1 ⟨fv1, rfl, hr1, hb1⟩
      have HF1 := Lib.hid hr1.rd
      have HY1 := Lib.hid hb1
      obtain ⟨f1x, f1c, rfl, _⟩ := hr1.rd
      rw [show st0.l.length = 1 from rfl] at HF1 ⊢
      unfold stV
      have HALL := Lib.hid (all_any (.slice f1x 1 f1c) st0 (.slice dx d.length dc) d y1 HF1.out (valid_fits (show Ed.Valid st0 from behind_valid [])) (Hown.out.below HY1.out).rd (by omega) Hdok.out)
      rw [HQ1.out] at HALL
      unfold stV at HALL
      clear hr1 hb1
      go_wp2_with fail
      refine HALL.out.mono ?_
      rintro e y2 ⟨hb2, tv2, rfl, hr2⟩
      obtain ⟨t2x, t2c, rfl, _⟩ := hr2.rd
      obtain ⟨t2n, ht2n⟩ : ∃ t2n, t2n = st.l.length := ⟨_, rfl⟩
      rw [← ht2n] at hr2 ⊢
      have HT2 := Lib.hid hr2.rd
      have HY2 := Lib.hid (HY1.out.trans (hb2.mono HY1.out.size))
      unfold stV
      clear hr2 hb2 ht2n
      obtain ⟨y3, hy3⟩ : ∃ y3, y3 = y2.alloc (.cells #[.slice t2x t2n t2c, .int .i64 st.log, .int .i64 st.next] 67 (0, 0)) := ⟨_, rfl⟩
      obtain ⟨kq, kqb⟩ := three_cells' y3 hy3
      obtain ⟨q3, hq3⟩ : ∃ q3, q3 = y2.heap.size := ⟨_, rfl⟩
      rw [← hq3] at kq
      have HK11 := Lib.hid kq
      have HY3 := Lib.hid (HY2.out.trans (kqb.mono HY2.out.size))
      have HT3 := Lib.hid (HT2.out.below kqb)
      have HW3 := Lib.hid hy3
      have HQ3 := Lib.hid hq3
      clear hy3 kq kqb hq3
      go_wp2_with fail
      rw [← HW3.out, ← HQ3.out]
      refine (first_any y3).mono ?_
      rintro e y4 ⟨fv4, rfl, hr4, hb4⟩
      have HF4 := Lib.hid hr4.rd
      have HY4 := Lib.hid (HY3.out.trans (hb4.mono HY3.out.size))
      have HK4 := Lib.hid (HK11.out.below hb4)
      have HT4 := Lib.hid (HT3.out.below hb4)
      obtain ⟨f4x, f4c, rfl, _⟩ := hr4.rd
      rw [show st0.l.length = 1 from rfl] at HF4 ⊢
      unfold stV
      clear hr4 hb4
      have hz4 := HY4.out.size
      have HOW4 := Lib.hid (Hown.out.below HY4.out)
      have HSRC := Lib.hid (show ∃ z c, Value.slice dx d.length dc = .slice z d.length c ∧ (0 < d.length → ∃ b, z = some ⟨b, 0, none⟩ ∧ ∀ i u, ((d.zip fvs).flatMap fun p => edRow p.1 p.2)[i]? = some u → y4.cell? ⟨b, i, none⟩ = some u) from
        ⟨_, _, rfl, fun h0 => by
          obtain ⟨b, e1, e2, e3⟩ := Hcells.out h0
          exact ⟨b, e1, fun i u hu => (HY4.out.cell (p := ⟨b, i, none⟩) e2).trans (e3 i u hu)⟩⟩)
      have HEA := Lib.hid (fun (j : Nat) (hj : j < d.length) (hj' : j < fvs.length) => HOW4.out.each j hj hj')
      have hdl0 : ([] : List Ed.Edit).length + d.length ≤ 1000000 := by simp; omega
      have hBz : p3 + 2 ≤ y4.heap.size := by omega
      have hwB : w.heap.size ≤ p3 + 2 := by omega
      go_wp2_with (at_builtin; refine wpList_append_eb rfl _ _ rfl w.heap.size y4.heap.size _ [] [] rfl (OwnEB.nil _ _ _) _ rfl fvs d HSRC.out Hown.out.len HEA.out hdl0 (Nat.le_refl _) (by omega) ?_)
      intro v5 y5 ho5 hb5 _
      have HO5 := Lib.hid ho5
      have HB45 := Lib.hid hb5
      have hz5 := hb5.size
      clear ho5 hb5
      obtain ⟨y6, hy6⟩ : ∃ y6, y6 = y5.alloc (.cells #[.int .i64 99, .int .i64 0, .int .i64 0, .slice none 0 0, .string ⟨#[]⟩] 74 (0, 0)) := ⟨_, rfl⟩
      have hbl6 : Blk y6 y5.heap.size 74 #[.int .i64 99, .int .i64 0, .int .i64 0, .slice none 0 0, .string ⟨#[]⟩] := by rw [hy6]; exact Blk.alloc_new _ _ _
      have hb6 : Below y5.heap.size y5 y6 := by rw [hy6]; exact (Below.refl _ _).alloc (Nat.le_refl _) _
      have HB46 := Lib.hid (HB45.out.trans (hb6.mono (by omega)))
      have HSR6 := Lib.hid (show ∃ z c, Value.slice (some ⟨y5.heap.size, 0, none⟩) 1 1 = .slice z ([⟨99, 0, 0, [], ⟨#[]⟩⟩] : List Ed.Edit).length c ∧ (0 < ([⟨99, 0, 0, [], ⟨#[]⟩⟩] : List Ed.Edit).length → ∃ b, z = some ⟨b, 0, none⟩ ∧ ∀ i u, ((([⟨99, 0, 0, [], ⟨#[]⟩⟩] : List Ed.Edit).zip ([.slice none 0 0] : List Value)).flatMap fun p => edRow p.1 p.2)[i]? = some u → y6.cell? ⟨b, i, none⟩ = some u) from
        ⟨_, 1, rfl, fun _ => ⟨y5.heap.size, rfl, fun i u hu => blk_row hbl6 rfl i u (by simpa [edRow] using hu)⟩⟩)
      have HRB6 := Lib.hid (show ∀ (j : Nat) (hj : j < ([⟨99, 0, 0, [], ⟨#[]⟩⟩] : List Ed.Edit).length) (hj' : j < ([.slice none 0 0] : List Value).length), RdIB y6 w.heap.size ([.slice none 0 0] : List Value)[j] ([⟨99, 0, 0, [], ⟨#[]⟩⟩] : List Ed.Edit)[j].files from fun j hj hj' => by
        obtain rfl : j = 0 := by simp at hj; omega
        exact .inl ⟨none, 0, rfl, rfl⟩)
      have HO6 := Lib.hid (HO5.out.below hb6)
      have hz6 := hb6.size
      rw [hy6] at HSR6 HRB6 HO6 hz6
      have HY6 := Lib.hid hy6
      have hdl1 : d.length + 1 ≤ 1000000 := by omega
      clear hy6 hbl6 hb6
      go_wp2_with (at_builtin; refine wpList_append_eb rfl (.tmp 72) (.tmp 74) rfl w.heap.size y4.heap.size _ fvs d rfl HO6.out _ rfl _ _ HSR6.out rfl HRB6.out hdl1 (by omega) (by omega) ?_)
      intro v7 y7 ho7 hb7 _
      rw [← HY6.out] at hb7
      have HO7 := Lib.hid ho7
      have HB47 := Lib.hid (HB46.out.trans hb7)
      obtain ⟨v7x, v7c, hv7⟩ := ho7.form
      obtain ⟨m7, hm7⟩ : ∃ m7, m7 = (d ++ ([⟨99, 0, 0, [], ⟨#[]⟩⟩] : List Ed.Edit)).length := ⟨_, rfl⟩
      rw [← hm7] at hv7
      subst hv7
      have HALL7 := Lib.hid (all_any (.slice f4x 1 f4c) st0 (.slice v7x m7 v7c) (d ++ [⟨99, 0, 0, [], ⟨#[]⟩⟩]) y7 (HF4.out.below HB47.out) (valid_fits (show Ed.Valid st0 from behind_valid [])) HO7.out.rd (by simp; omega) (fun j hj => by
        by_cases hjd : j < d.length
        · rw [List.getElem_append_left hjd]; exact Hdok.out j hjd
        · obtain rfl : j = d.length := by simp at hj; omega
          rw [List.getElem_append_right (by omega)]
          simp only [Nat.sub_self, List.getElem_cons_zero]
          exact HE99.out))
      rw [HQ2.out] at HALL7
      unfold stV at HALL7
      clear ho7 hb7 hm7
      go_wp2_with fail
      refine HALL7.out.mono ?_
      rintro e y8 ⟨hb8, rfl⟩
      have HB48 := Lib.hid (HB47.out.trans (hb8.mono (by have := HB47.out.size; omega)))
      unfold stV
      clear hb8
      obtain ⟨y9, hy9⟩ : ∃ y9, y9 = y8.alloc (.cells #[.slice none 0 0, .int .i64 0, .int .i64 0] 67 (0, 0)) := ⟨_, rfl⟩
      obtain ⟨_, kqb⟩ := three_cells' y9 hy9
      have HB49 := Lib.hid (HB48.out.trans (kqb.mono HB48.out.size))
      have HYr := Lib.hid (HY4.out.trans (HB49.out.mono hz4))
      obtain ⟨a0, a1, a2, _⟩ := blk3 (HK4.out.below HB49.out)
      obtain ⟨g0, g1, g2, _⟩ := blk3 (Hk4.out.below HYr.out)
      have HSS := Lib.hid (sameState_any (.slice t2x t2n t2c) (.slice wx tn wc) st st y9 (HT4.out.below HB49.out) (Hrc.out.rd.below HYr.out) (valid_fits Hv.out) (valid_fits Hv.out))
      rw [sameB_me] at HSS
      unfold stV at HSS
      rw [hy9] at a0 a1 a2 g0 g1 g2 HSS
      have HY9 := Lib.hid hy9
      clear hy9 kqb
      go_wp2_with fail
      refine HSS.out.mono ?_
      rintro e z1 ⟨rfl, hbz⟩
      rw [← HY9.out] at hbz
      have HBz := Lib.hid ((Hbe.out.trans (HYr.out.mono Hbe.out.size)).trans (hbz.mono (by have := Hbe.out.size; have := HYr.out.size; omega)))
      clear a0 a1 a2 g0 g1 g2 hbz
      go_wp2_with fail
      refine (lives_any z1).mono ?_
      rintro e z2 ⟨rfl, hb2⟩
      go_wp2_with fail
      go_ret
      exact ⟨rfl, HBz.out.trans (hb2.mono HBz.out.size)⟩
end Go.Proofs.Ytenbgfejonokdaa

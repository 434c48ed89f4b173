/- Edits as bytes, and back, walked. -/
import Derived.Test.YtenbgfejonokdaaEdDec
import Derived.Test.YtenbgfejonokdaaEdLives
namespace Go.Proofs.Ytenbgfejonokdaa
set_option linter.unusedSimpArgs false
set_option linter.unusedVariables false
set_option maxRecDepth 100000
open Go.RowKit

theorem quiet_draws {P : Program} {f : FuncId} {args : Array Value} {w : World} {n : Nat} {v : Value} (h : Calls P f args (w.drewN n) fun e w' => e = .returned v ∧ ∃ m, w' = (w.drewN n).drewN m) :
    Calls P f args (w.drewN n) fun e w'' => e = .returned v ∧ ∃ m, w'' = w.drewN m := h.mono fun _ _ ⟨he, m, hm⟩ => ⟨he, n + m, by rw [hm, World.drewN_drewN]⟩
/-- No number below 0. -/
def NoNeg (e : Ed.Edit) : Prop := 0 ≤ e.kind ∧ 0 ≤ e.at_ ∧ 0 ≤ e.file ∧ ∀ (j : Nat) (hj : j < e.files.length), 0 ≤ e.files[j]
theorem encOk_of {e : Ed.Edit} (h : NoNeg e) (hb : EdBnd e) (hf : e.files.length ≤ 100) (hk : e.key.size ≤ 200) : Ed.EncOk e := by
  obtain ⟨h1, h2, h3, h4⟩ := h
  have b1 := hb.kind.2
  have b2 := hb.at_.2
  have b3 := hb.file.2
  refine ⟨⟨h1, by omega⟩, ⟨h2, by omega⟩, ⟨h3, by omega⟩, fun n hn => ?_, by omega, by rw [list_len']; omega⟩
  obtain ⟨j, hj, rfl⟩ := List.mem_iff_getElem.1 hn
  have := (hb.each _ hn).2
  exact ⟨h4 j hj, by omega⟩
theorem encFit_of {e : Ed.Edit} (hb : EdBnd e) (hf : e.files.length ≤ 100) (hk : e.key.size ≤ 200) : EncFit e := by
  have b1 := hb.kind.2
  have b2 := hb.at_.2
  have b3 := hb.file.2
  refine ⟨by omega, by omega, by omega, by omega, fun n hn => ?_, by omega⟩
  have := (hb.each _ hn).2
  omega
set_option maxHeartbeats 8000000 in
theorem walkEditsWritten (x : Value × List Ed.Edit) (w : World) (h1 : EdsIn w x) :
    Calls Try.prog 13 #[x.1] w fun e w' => e = .returned (.bool true) ∧ Below w.heap.size w w' := by
  obtain ⟨lv, l⟩ := x
  obtain ⟨hl, hlm, hbd⟩ := h1
  simp only at hl hlm hbd ⊢
  obtain ⟨lx, lc, rfl, _⟩ := id hl
  have HL := Lib.hid hl
  have HBD := Lib.hid hbd
  have HBY := Lib.hid (beyond_any _ l 40 w hl hlm (fun j hj => ⟨(hbd j hj).files, (hbd j hj).key⟩))
  obtain ⟨n, hn⟩ : ∃ n, n = l.length := ⟨_, rfl⟩
  rw [← hn] at hlm HL HBY ⊢
  have Hn := Lib.hid hn
  unfold maxLen at hlm
  clear hl hbd hn
  go_enter Try.func13, Try.ntmps13
  go_wp2_with fail
  refine HBY.out.mono ?_
  rintro e w0 ⟨⟨b, rfl, hsm⟩, rfl⟩
  have HSM := Lib.hid hsm
  clear hsm
  by_cases hb1 : b = 1
  · subst hb1
    go_wp2_with fail
    refine (lives_any w).mono ?_
    rintro e w1 ⟨rfl, hb⟩
    go_wp2_with fail
    go_ret
    exact ⟨rfl, hb⟩
  have hbf : (b == 1) = false := beq_eq_false_iff_ne.2 hb1
  rw [hbf]
  have HS := Lib.hid (HSM.out hb1)
  clear hb1 hbf
  have hll : n ≤ 40 := by have := HS.out.1; rw [← Hn.out] at this; omega
  go_wp2_with fail
  go_loop [3, 4] (fun v3 _ => ∃ (k : Nat), v3 = .int .i64 k ∧ k ≤ n ∧ ∀ (j : Nat) (hj : j < l.length), j < k → NoNeg l[j]) (fun v3 _ => n - (intOf v3).toNat)
  case atStart => exact ⟨0, rfl, Nat.zero_le _, fun j _ hj => absurd hj (by omega)⟩
  case round =>
    obtain ⟨k, rfl, hk, hno⟩ := hrel
    have Hno := Lib.hid hno
    clear hno
    by_cases hlt : k < n
    · have hkl : k < l.length := by rw [← Hn.out]; exact hlt
      have hll2 := HL.out
      rw [Hn.out] at hll2
      obtain ⟨eb, eo, fv, rfl, heb, hfl, hcell⟩ := hll2.at_ k hkl
      have hbk := HBD.out k hkl
      have hsk := HS.out.2 k hkl
      obtain ⟨e, he⟩ : ∃ e, e = l[k] := ⟨_, rfl⟩
      rw [← he] at hfl hcell hbk hsk
      have HE := Lib.hid he
      obtain ⟨fx, fc, hfv, hfe⟩ := hfl.form
      obtain ⟨fn, hfn⟩ : ∃ fn, fn = e.files.length := ⟨_, rfl⟩
      rw [← hfn] at hfv
      subst hfv
      obtain ⟨c0, c1, c2, c3, c4⟩ := hcell w (Below.refl _ _)
      have HFE := Lib.hid hfe
      have HFN := Lib.hid hfn
      have hf100 : fn ≤ 100 := by rw [hfn]; exact hsk.1
      have hk0 : (0 : Int) ≤ k := by omega
      have hkn : (k : Int) < n := by omega
      have Hlt := Lib.hid hlt
      obtain ⟨kind, at_, file, files, key⟩ := e
      simp only at c0 c1 c2 c3 c4 HFE HFN
      clear he hfn hfl hcell hll2 hbk hsk hfe
      by_cases n1 : kind < 0
      · go_wp2_with fail
        refine (lives_any w).mono ?_
        rintro e w1 ⟨rfl, hb⟩
        go_wp2_with fail
        go_ret
        exact ⟨rfl, hb⟩
      by_cases n2 : at_ < 0
      · go_wp2_with fail
        refine (lives_any w).mono ?_
        rintro e w1 ⟨rfl, hb⟩
        go_wp2_with fail
        go_ret
        exact ⟨rfl, hb⟩
      by_cases n3 : file < 0
      · go_wp2_with fail
        refine (lives_any w).mono ?_
        rintro e w1 ⟨rfl, hb⟩
        go_wp2_with fail
        go_ret
        exact ⟨rfl, hb⟩
      go_wp2_with fail
      go_loop [4] (fun v4 => ∃ (i : Nat), v4 = .int .i64 i ∧ i ≤ fn ∧ ∀ (j : Nat) (hj : j < files.length), j < i → 0 ≤ files[j]) (fun v4 => fn - (intOf v4).toNat)
      case atStart => exact ⟨0, rfl, Nat.zero_le _, fun j _ hj => absurd hj (by omega)⟩
      case round =>
        obtain ⟨i, rfl, hi, hfi⟩ := hrel
        have Hfi := Lib.hid hfi
        clear hfi
        by_cases hil : i < fn
        · have hif : i < files.length := by rw [← HFN.out]; exact hil
          obtain ⟨fb, fo, rfl, hfb, hcf⟩ := HFE.out i hif
          obtain ⟨z, hz⟩ : ∃ z, z = files[i] := ⟨_, rfl⟩
          rw [← hz] at hcf
          have HZ := Lib.hid hz
          have hi0 : (0 : Int) ≤ i := by omega
          have hin : (i : Int) < fn := by omega
          clear hz
          by_cases n4 : z < 0
          · go_wp2_with fail
            refine (lives_any w).mono ?_
            rintro e w1 ⟨rfl, hb⟩
            go_wp2_with fail
            go_ret
            exact ⟨rfl, hb⟩
          · go_wp2_with fail
            go_round
            case rel => exact ⟨i + 1, by go_num, by omega, fun j hj hji => (by
              by_cases e : j < i
              · exact Hfi.out j hj e
              · obtain rfl : j = i := by omega
                rw [← HZ.out]; omega)⟩
            case measure => simp [intOf]; omega
        · obtain rfl : i = fn := by omega
          go_wp2_with fail
          go_round
          case rel => exact ⟨k + 1, by go_num, by have := Hlt.out; omega, fun j hj hjk => (by
            by_cases e : j < k
            · exact Hno.out j hj e
            · obtain rfl : j = k := by omega
              rw [← HE.out]
              exact ⟨by show 0 ≤ kind; omega, by show 0 ≤ at_; omega, by show 0 ≤ file; omega, fun j hj => Hfi.out j hj (by rw [HFN.out]; exact hj)⟩)⟩
          case measure => simp [intOf]; omega
    · obtain rfl : k = n := by omega
      have HNN := Lib.hid (show ∀ e ∈ l, Ed.EncOk e from fun e he => by
        obtain ⟨j, hj, rfl⟩ := List.mem_iff_getElem.1 he
        exact encOk_of (Hno.out j hj (by rw [Hn.out]; exact hj)) (HBD.out j hj) (HS.out.2 j hj).1 (HS.out.2 j hj).2)
      have HFT := Lib.hid (show ∀ e ∈ l, EncFit e from fun e he => by
        obtain ⟨j, hj, rfl⟩ := List.mem_iff_getElem.1 he
        exact encFit_of (HBD.out j hj) (HS.out.2 j hj).1 (HS.out.2 j hj).2)
      have HEN := Lib.hid (encode_ed (.slice lx k lc) l w HL.out (by rw [← Hn.out]; omega) HFT.out)
      have hdec := Ed.decE_enc l HNN.out (by rw [← Hn.out]; omega)
      obtain ⟨X, hX⟩ : ∃ X, X = encAB l := ⟨_, rfl⟩
      rw [← hX] at HEN
      have hXl : X.data.toList = Ed.enc l := by rw [hX]; rfl
      have hXs : (Ed.enc l).length = X.size := by rw [← hXl, list_len']
      rw [hXs, ← hXl] at hdec
      have hXm : X.size ≤ 1000000 := by
        rw [← hXs]
        unfold Ed.enc
        rw [List.length_append]
        have h1 := encs_len l HFT.out
        have h2 := pn_len (n := (l.length : Int)) (by rw [← Hn.out]; omega)
        rw [← Hn.out] at h1 h2 ⊢
        omega
      have HDC := Lib.hid (fun W => decode_ed X W hXm (fun out ho => by
        rw [hdec] at ho
        injection ho with ho
        injection ho with ho _
        subst ho
        exact ⟨by rw [← Hn.out]; omega, HFT.out⟩))
      have Hdec := Lib.hid hdec
      have HXX := Lib.hid hX
      clear hdec hX hXl hXs
      go_wp2_with fail
      refine HEN.out.mono ?_
      rintro e w1 ⟨rfl, hb1⟩
      have HB1 := Lib.hid hb1
      clear hb1
      go_wp2_with fail
      refine (HDC.out w1).mono ?_
      rintro e w2 ⟨hb2, hcase⟩
      have HB2 := Lib.hid (HB1.out.trans (hb2.mono HB1.out.size))
      clear hb2
      rcases hcase with ⟨v, out, rfl, hrd, hde, _⟩ | ⟨_, hno⟩
      case inr => exact absurd ⟨l, Hdec.out, HXX.out.symm⟩ hno
      rw [Hdec.out] at hde
      injection hde with hde
      injection hde with hde _
      subst hde
      obtain ⟨ox, oc, rfl, _⟩ := id hrd
      rw [← Hn.out] at hrd ⊢
      have HRD := Lib.hid hrd
      clear hrd
      go_wp2_with fail
      go_loopw [7] (fun v7 wr => ∃ (j : Nat), v7 = .int .i64 j ∧ j ≤ k ∧ Below w.heap.size w wr ∧ RdE wr (.slice ox k oc) l) (fun v7 _ => k - (intOf v7).toNat)
      case atStart => exact ⟨0, rfl, Nat.zero_le _, HB2.out, HRD.out⟩
      case round =>
        obtain ⟨j, rfl, hj, hbe, hrr⟩ := hrel
        have Hbe := Lib.hid hbe
        have Hrr := Lib.hid hrr
        clear hbe hrr
        by_cases hjk : j < k
        · have hjl : j < l.length := by rw [← Hn.out]; exact hjk
          have hl1 := HL.out.below Hbe.out
          have hl2 := Hrr.out
          rw [Hn.out] at hl1 hl2
          obtain ⟨b1, o1, f1, rfl, hb1, hr1, hc1⟩ := hl1.at_ j hjl
          obtain ⟨b2, o2, f2, rfl, hb2, hr2, hc2⟩ := hl2.at_ j hjl
          obtain ⟨c0, c1, c2, c3, c4⟩ := hc1 wr (Below.refl _ _)
          obtain ⟨d0, d1, d2, d3, d4⟩ := hc2 wr (Below.refl _ _)
          obtain ⟨e, he⟩ : ∃ e, e = l[j] := ⟨_, rfl⟩
          have hfl := (HS.out.2 j hjl).1
          rw [← he] at hr1 hr2 c0 c1 c2 c4 d0 d1 d2 d4 hfl
          obtain ⟨kind, at_, file, files, key⟩ := e
          simp only at hr1 hr2 c0 c1 c2 c3 c4 d0 d1 d2 d3 d4 hfl
          obtain ⟨x1, y1, hv1, _⟩ := hr1.form
          obtain ⟨x2, y2, hv2, _⟩ := hr2.form
          subst hv1 hv2
          have HSI := Lib.hid (fun m => quiet_draws (sameInts_any _ _ files files (wr.drewN m) (hr2.below (below_drewN (Below.refl _ _) m)) (hr1.below (below_drewN (Below.refl _ _) m)) (by unfold maxLen; omega) (by unfold maxLen; omega)))
          rw [decide_eq_true rfl] at HSI
          obtain ⟨fn, hfn⟩ : ∃ fn, fn = files.length := ⟨_, rfl⟩
          rw [← hfn] at c3 d3 HSI
          have hj0 : (0 : Int) ≤ j := by omega
          have hjn : (j : Int) < k := by omega
          have Hjk := Lib.hid hjk
          clear he hr1 hr2 hc1 hc2 hl1 hl2 hfn hfl
          go_wp2_with fail
          go_quiet ((go_at_call 53; exact HSI.out _))
          go_wp2_with fail
          go_roundw
          case rel => exact ⟨j + 1, by go_num, by have := Hjk.out; omega, below_drewN Hbe.out _, Hrr.out.below (below_drewN (Below.refl _ _) _)⟩
          case measure => simp [intOf]; omega
        · obtain rfl : j = k := by omega
          go_wp2_with fail
          refine (lives_any wr).mono ?_
          rintro e w3 ⟨rfl, hb3⟩
          go_wp2_with fail
          go_ret
          exact ⟨rfl, Hbe.out.trans (hb3.mono Hbe.out.size)⟩
end Go.Proofs.Ytenbgfejonokdaa

/- 'JournalFull', walked. -/
import Derived.Test.YtcijhhnbhnaiaaaGreatDoorJouU
namespace Go.Proofs.YtcijhhnbhnaiaaaGreatDoor
set_option linter.unusedSimpArgs false
set_option linter.unusedVariables false
set_option maxRecDepth 100000
open Go.RowKit Go.Maps
open Dsk

/-- What holds behind so many acts. -/
def FullInv (w0 wr : World) (vd : Value) (j room k : Nat) (u : Value) : Prop := ∃ lots d Y, JS w0 Y wr vd d j 0 false 1 ∧ SureC w0 Y wr j u lots.flatten ∧ d.off = false ∧ d.starts = 0 ∧ JF 1 lots d.files ∧ LotsOk lots k ∧ d.fail = none ∧ d.room = room
set_option maxHeartbeats 8000000 in
theorem walkJournalFull (cap : Int) (x : Value × List JAct) (w : World) (h0 : 0 ≤ cap ∧ cap ≤ 65535) (h1 : RdJ w w.heap.size x.1 x.2 ∧ x.2.length ≤ maxLen) :
    Calls Tryz.prog 7 #[.int .u16 cap, x.1] w fun e w' => e = .returned (.bool true) ∧ Below w.heap.size w w' := by
  obtain ⟨lv, l⟩ := x
  obtain ⟨hrd, hlm⟩ := h1
  simp only at hrd hlm ⊢
  have HBY := Lib.hid (beyondJ_any lv l _ 40 w hrd hlm)
  have HN := Lib.hid (numOk_small w 1 (by decide) (by decide))
  obtain ⟨lx, lc, rfl, hel⟩ := hrd
  have Hel := Lib.hid hel
  have HB0 := Lib.hid (Below.refl w.heap.size w)
  obtain ⟨c, rfl⟩ : ∃ c : Nat, cap = c := ⟨cap.toNat, by omega⟩
  have hc1 := h0.2
  obtain ⟨n, hn⟩ : ∃ n, n = l.length := ⟨_, rfl⟩
  rw [← hn] at HBY
  rw [← hn]
  have Hn := Lib.hid hn
  clear hel h0 hn
  go_enter Tryz.func7, Tryz.ntmps7
  go_wp2_with fail
  refine HBY.out.mono ?_
  rintro e w' ⟨⟨g, rfl, hg⟩, rfl⟩
  by_cases g1 : g = 1
  · subst g1
    clear hg
    go_wp2_with fail
    refine (jlives_any w).mono ?_
    rintro e wl ⟨rfl, hbl⟩
    have HBL := Lib.hid (Below.trans HB0.out (hbl.mono HB0.out.size))
    clear hbl
    go_wp2_with fail
    go_ret
    exact ⟨rfl, HBL.out⟩
  have t1 : (g == 1) = false := beq_eq_false_iff_ne.2 g1
  rw [t1]
  have HSM := Lib.hid (hg g1)
  clear hg g1 t1
  by_cases hc0 : c = 0
  · subst hc0
    go_wp2_with fail
    refine (jlives_any w).mono ?_
    rintro e wl ⟨rfl, hbl⟩
    have HBL := Lib.hid (Below.trans HB0.out (hbl.mono HB0.out.size))
    clear hbl
    go_wp2_with fail
    go_ret
    exact ⟨rfl, HBL.out⟩
  have t2 : ((c : Int) == 0) = false := by rw [beq_eq_false_iff_ne]; omega
  have hn40 : n ≤ 40 := by have := HSM.out.1; rw [← Hn.out] at this; omega
  go_wp2_with fail
  refine (live_new c w (by omega) (by omega)).mono ?_
  rintro e w1 ⟨v, rfl, hl1⟩
  obtain ⟨bd, rfl⟩ := hl1.ptr
  have HL1 := Lib.hid hl1
  clear hl1
  go_wp2_with fail
  refine (jopen_new (fr := 1) HL1.out rfl rfl (by decide)).mono ?_
  rintro e w2 ⟨j, Y, rfl, _, hj, _, _⟩
  have HI0 := Lib.hid (show FullInv w w2 (.pointer (some ⟨bd, 0, none⟩)) j c 0 (.slice none 0 0) from ⟨[], _, Y, hj, ⟨OwnC.nil _ _, fun k e => by simp [Value.ownBlock] at e⟩, rfl, rfl, .inl ⟨rfl, rfl⟩, LotsOk.nil, rfl, rfl⟩)
  clear hj HL1 t2
  go_wp2_with fail
  go_loopw [10, 11, 12] (fun v10 v11 v12 wr => ∃ k : Nat, v11 = .int .i64 k ∧ k ≤ n ∧ FullInv w wr (.pointer (some ⟨bd, 0, none⟩)) j c k v10) (fun _ v11 _ _ => n - (intOf v11).toNat)
  case atStart => exact ⟨0, rfl, Nat.zero_le _, HI0.out⟩
  case round =>
    obtain ⟨k, rfl, hk, lots, d, Y2, hj, hs, hoff, hst, hf, hok, hfail, hroom⟩ := hrel
    have HJ := Lib.hid hj
    have HS := Lib.hid hs
    have HBR := Lib.hid hj.live.below
    obtain ⟨ux, uc, hux⟩ := hs.own.rd.form
    have HOFF := Lib.hid hoff
    have HST := Lib.hid hst
    have HF := Lib.hid hf
    have HOK := Lib.hid hok
    have HFA := Lib.hid hfail
    have HRO := Lib.hid hroom
    have HFO := Lib.hid (show FOk d from fun m e => by rw [hfail] at e; cases e)
    clear hj hs hoff hst hf hok hfail hroom
    by_cases hlt : k < n
    · have hkl : k < l.length := by rw [← Hn.out]; exact hlt
      obtain ⟨ho, b, off, rfl, hb, hc⟩ := Hel.out k hkl
      have HO := Lib.hid ho
      have HBL := Lib.hid hb
      have HC := Lib.hid (fun (W : World) (hW : Below w.heap.size w W) => show W.cell? ⟨b, off + k * 4 + 1, none⟩ = some l[k].cv from by
        have h2 := (jact_load (b := b) (off := off + k * 4) (a := l[k]) (fun i hi => by rw [Nat.add_assoc]; exact hc i hi)).2.1
        exact (hW.cell (p := ⟨b, _, none⟩) hb).trans h2)
      obtain ⟨cx, cc, hcv⟩ := ho.rd.form
      rw [hcv] at HC
      obtain ⟨lk, hlk⟩ : ∃ lk, lk = l[k].cells := ⟨_, rfl⟩
      have HRD := Lib.hid (fun (W : World) (hW : Below w.heap.size w W) => show RdC W (.slice cx lk.length cc) lk from by
        have h2 := ho.rd.below hW
        rw [hcv] at h2
        rw [hlk]
        exact h2)
      have H20 := Lib.hid (show Lot20 lk from by rw [hlk]; exact Lot20.of (HSM.out.2 k hkl).1 ho.bnd)
      rw [← hlk] at HC
      obtain ⟨ln, hln⟩ : ∃ ln, ln = lk.length := ⟨_, rfl⟩
      rw [← hln] at HC HRD
      have HLN := Lib.hid hln
      have c1 := HC.out wr HBR.out
      subst hux
      obtain ⟨un, hun⟩ : ∃ un, un = lots.flatten.length := ⟨_, rfl⟩
      have HUN := Lib.hid hun
      rw [← hun] at HS ⊢
      clear hc ho hcv hlk hln hb hun
      go_wp2_with fail
      refine (japp_laid (k := k) HJ.out HOFF.out HST.out HN.out (HRD.out wr HBR.out) H20.out HF.out HFO.out HOK.out).mono ?_
      rintro e w3 ⟨r, bad, d2, rfl, hla, hj3, hk3⟩
      have HS3 := Lib.hid (HS.out.jk hk3)
      have HB3 := Lib.hid hj3.live.below
      have c3 := HC.out w3 hj3.live.below
      clear hk3 c1
      cases hla with
      | crash _ t hne => exact absurd HFA.out hne
      | no _ hr hr2 =>
        have t3 : (r == 0) = false := beq_eq_false_iff_ne.2 hr
        have HJ3 := Lib.hid hj3
        clear hj3 hr hr2
        go_wp2_with fail
        refine (jnum_ok HJ3.out HOFF.out HST.out).mono ?_
        rintro e w4 ⟨rfl, hb4⟩
        have HB4 := Lib.hid hb4
        clear hb4
        go_wp2_with fail
        go_roundw
        case rel => exact ⟨k + 1, by go_num, by omega, lots, d, Y2, HJ3.out.below HB4.out, HS3.out.below HB4.out, HOFF.out, HST.out, HF.out, HOK.out.next, HFA.out, HRO.out⟩
        case measure => simp [intOf]; omega
      | yes _ lots2 hoff2 hst2 hroom2 hfail2 hfo2 hf2 hok2 hfl2 =>
        have HJ3 := Lib.hid hj3
        have HI3 := Lib.hid (And.intro hoff2 (And.intro (hst2.trans HST.out) (And.intro hf2 (And.intro hok2 (And.intro (hfail2 HFA.out) (And.intro (hroom2.trans HRO.out) hfl2))))))
        clear hj3 hoff2 hst2 hroom2 hfail2 hfo2 hf2 hok2 hfl2
        go_wp2_with (at_builtin; refine wpList_append_sure rfl (.tmp 54) (.tmp 59) rfl HJ3.out _ lots.flatten rfl HS3.out _ lk rfl (HLN.out ▸ HRD.out w3 HB3.out) (by have := HOK.out.flat; have := H20.out.len; omega) ?_; intro u4 w4 hs4 hj4; have HS4 := Lib.hid hs4; have HJ4 := Lib.hid hj4; clear hs4 hj4)
        refine (jnum_ok HJ4.out HI3.out.1 HI3.out.2.1).mono ?_
        rintro e w5 ⟨rfl, hb5⟩
        have HB5 := Lib.hid hb5
        clear hb5
        go_wp2_with fail
        go_roundw
        case rel => exact ⟨k + 1, by go_num, by omega, lots2, _, _, HJ4.out.below HB5.out, (by rw [HI3.out.2.2.2.2.2.2]; exact HS4.out.below HB5.out), HI3.out.1, HI3.out.2.1, HI3.out.2.2.1, HI3.out.2.2.2.1, HI3.out.2.2.2.2.1, HI3.out.2.2.2.2.2.1⟩
        case measure => simp [intOf]; omega
    · obtain rfl : k = n := by omega
      obtain ⟨d1, d2, e1, e2, a1, a2, a3, a4, a5⟩ := crash_one HOFF.out HF.out []
      subst hux
      obtain ⟨un, hun⟩ : ∃ un, un = lots.flatten.length := ⟨_, rfl⟩
      have HUN := Lib.hid hun
      rw [← hun] at HS ⊢
      have E1 := Lib.hid e1
      have E2 := Lib.hid e2
      have A1 := Lib.hid a1
      have A2 := Lib.hid a2
      clear hun e1 e2 a1 a2 a3 a4 a5
      go_wp2_with fail
      refine (HJ.out.live.crashP (.slice none 0 0) [] (keepR_nil _ _) (by decide) E1.out).mono ?_
      rintro e w3 ⟨rfl, hl3, hk3⟩
      have HL3 := Lib.hid hl3
      have HS3 := Lib.hid (HS.out.keeps hk3)
      clear hl3 hk3
      go_wp2_with fail
      refine (HL3.out.startK E2.out).mono ?_
      rintro e w4 ⟨rfl, hl4, hk4⟩
      have HL4 := Lib.hid hl4
      have HS4 := Lib.hid (HS3.out.keeps hk4)
      clear hl4 hk4
      go_wp2_with fail
      obtain ⟨d', hcall, _⟩ := jopen_JF (n := 1) (fr := 1) (lots := lots) (tail := []) (s := (jText lots).length) HL4.out A1.out (by rw [A2.out]; exact HF.out.open) HN.out (by decide) (by decide) HOK.out.ok nil_none (fun h => absurd rfl h) (fun _ => rfl)
      have HCA := Lib.hid hcall
      clear hcall
      refine HCA.out.mono ?_
      rintro e w5 ⟨o, u, Y3, rfl, _, hj5, hu5, _, hk5, _⟩
      obtain ⟨ux2, uc2, hus2⟩ := hu5.rd.form
      subst hus2
      have HB5 := Lib.hid hj5.live.below
      have HSC := Lib.hid (sameCells_any _ _ _ _ w5 hu5.rd (HS4.out.keeps hk5).own.rd (by have := HOK.out.flat; omega) (by have := HOK.out.flat; omega))
      rw [sameC_true rfl] at HSC
      rw [← HUN.out] at HSC ⊢
      clear hj5 hu5 hk5
      go_wp2_with fail
      refine HSC.out.mono ?_
      rintro e w6 ⟨rfl, hb6⟩
      have HB6 := Lib.hid (HB5.out.trans (hb6.mono HB5.out.size))
      clear hb6
      go_wp2_with fail
      refine (jlives_any w6).mono ?_
      rintro e wl ⟨rfl, hbl⟩
      have HBL := Lib.hid (Below.trans HB6.out (hbl.mono HB6.out.size))
      clear hbl
      go_wp2_with fail
      go_ret
      exact ⟨rfl, HBL.out⟩
end Go.Proofs.YtcijhhnbhnaiaaaGreatDoor

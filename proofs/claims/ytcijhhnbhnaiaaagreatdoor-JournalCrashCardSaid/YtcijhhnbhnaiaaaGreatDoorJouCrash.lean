/- 'JournalCrash', walked. -/
import Derived.Test.YtcijhhnbhnaiaaaGreatDoorJouV
namespace Go.Proofs.YtcijhhnbhnaiaaaGreatDoor
set_option linter.unusedSimpArgs false
set_option linter.unusedVariables false
set_option maxRecDepth 100000
open Go.RowKit Go.Maps
open Dsk

/-- What holds behind so many acts. -/
def CrashInv (w0 wr : World) (vd : Value) (k : Nat) (vj u : Value) : Prop := ∃ lots d Y j st, vj = .pointer (some ⟨j, 0, none⟩) ∧ JS w0 Y wr vd d j st false 1 ∧ SureC w0 Y wr j u lots.flatten ∧ d.off = false ∧ d.starts = st ∧ JF 1 lots d.files ∧ LotsOk lots k ∧ FOk d ∧ d.room = 1048576
set_option maxHeartbeats 16000000 in
theorem walkJournalCrash (x : Value × List JAct) (y : Value × List Int) (w : World) (h1 : RdJ w w.heap.size x.1 x.2 ∧ x.2.length ≤ maxLen) (h2 : RdU w y.1 y.2 ∧ y.2.length ≤ maxLen) :
    Calls Tryz.prog 8 #[x.1, y.1] w fun e w' => e = .returned (.bool true) ∧ Below w.heap.size w w' := by
  obtain ⟨lv, l⟩ := x
  obtain ⟨av, al⟩ := y
  obtain ⟨hrd, hlm⟩ := h1
  obtain ⟨hru, ham⟩ := h2
  simp only at hrd hlm hru ham ⊢
  have HBY := Lib.hid (beyondJ_any lv l _ 40 w hrd hlm)
  have HN := Lib.hid (numOk_small w 1 (by decide) (by decide))
  obtain ⟨lx, lc, rfl, hel⟩ := hrd
  obtain ⟨ax, ac, rfl, hea⟩ := hru
  have Hel := Lib.hid hel
  have Hea := Lib.hid hea
  have HB0 := Lib.hid (Below.refl w.heap.size w)
  obtain ⟨n, hn⟩ : ∃ n, n = l.length := ⟨_, rfl⟩
  obtain ⟨an, han⟩ : ∃ an, an = al.length := ⟨_, rfl⟩
  rw [← hn] at HBY
  rw [← hn, ← han]
  have Hn := Lib.hid hn
  have Han := Lib.hid han
  unfold maxLen at ham
  rw [← han] at ham
  clear hel hea hn han
  go_enter Tryz.func8, Tryz.ntmps8
  go_wp2_with fail
  refine HBY.out.mono ?_
  rintro e w' ⟨⟨g, rfl, hg⟩, rfl⟩
  by_cases g1 : g = 1
  · subst g1
    clear hg
    go_wp2_with fail
    refine (jlives_any w).mono ?_
    rintro e wl ⟨rfl, hbl⟩
    have HBL := Lib.hid (Below.trans HB0.out (hbl.mono HB0.out.size))
    clear hbl
    go_wp2_with fail
    go_ret
    exact ⟨rfl, HBL.out⟩
  have t1 : (g == 1) = false := beq_eq_false_iff_ne.2 g1
  rw [t1]
  have HSM := Lib.hid (hg g1)
  clear hg g1 t1
  by_cases ha0 : (40 : Int) < an
  · go_wp2_with fail
    refine (jlives_any w).mono ?_
    rintro e wl ⟨rfl, hbl⟩
    have HBL := Lib.hid (Below.trans HB0.out (hbl.mono HB0.out.size))
    clear hbl
    go_wp2_with fail
    go_ret
    exact ⟨rfl, HBL.out⟩
  have hn40 : n ≤ 40 := by have := HSM.out.1; rw [← Hn.out] at this; omega
  go_wp2_with fail
  refine (live_new 1048576 w (by omega) (by omega)).mono ?_
  rintro e w1 ⟨v, rfl, hl1⟩
  obtain ⟨bd, rfl⟩ := hl1.ptr
  have HL1 := Lib.hid hl1
  clear hl1
  go_wp2_with fail
  refine (jopen_new (fr := 1) HL1.out rfl rfl (by decide)).mono ?_
  rintro e w2 ⟨j, Y, rfl, _, hj, _, _⟩
  have HI0 := Lib.hid (show CrashInv w w2 (.pointer (some ⟨bd, 0, none⟩)) 0 (.pointer (some ⟨j, 0, none⟩)) (.slice none 0 0) from ⟨[], _, Y, j, _, rfl, hj, ⟨OwnC.nil _ _, fun k e => by simp [Value.ownBlock] at e⟩, rfl, rfl, .inl ⟨rfl, rfl⟩, LotsOk.nil, (fun m e => by cases e), rfl⟩)
  clear hj HL1
  go_wp2_with fail
  go_loopw [7, 10, 11, 12, 13, 14, 15, 16] (fun v7 v10 v11 _ _ _ _ _ wr => ∃ k : Nat, v11 = .int .i64 k ∧ k ≤ n ∧ CrashInv w wr (.pointer (some ⟨bd, 0, none⟩)) k v7 v10) (fun _ _ v11 _ _ _ _ _ _ => n - (intOf v11).toNat)
  case atStart => exact ⟨0, rfl, Nat.zero_le _, HI0.out⟩
  case round =>
    obtain ⟨k, rfl, hk, lots, d, Y2, j2, st, rfl, hj, hs, hoff, hst, hf, hok, hfo, hroom⟩ := hrel
    have HJ := Lib.hid hj
    have HS := Lib.hid hs
    have HBR := Lib.hid hj.live.below
    obtain ⟨ux, uc, hux⟩ := hs.own.rd.form
    have HD := Lib.hid (And.intro hoff (And.intro hst (And.intro hf (And.intro hfo hroom))))
    have HOK := Lib.hid hok
    clear hj hs hoff hst hf hok hfo hroom
    subst hux
    obtain ⟨un, hun⟩ : ∃ un, un = lots.flatten.length := ⟨_, rfl⟩
    have HUN := Lib.hid hun
    rw [← hun] at HS ⊢
    clear hun
    by_cases hlt : k < n
    · have hkl : k < l.length := by rw [← Hn.out]; exact hlt
      obtain ⟨ho, b, off, rfl, hb, hc⟩ := Hel.out k hkl
      have HO := Lib.hid ho
      have HBL := Lib.hid hb
      have HC := Lib.hid (fun (W : World) (hW : Below w.heap.size w W) => show W.cell? ⟨b, off + k * 4 + 1, none⟩ = some l[k].cv ∧ W.cell? ⟨b, off + k * 4 + 3, none⟩ = some l[k].kv from by
        obtain ⟨_, h2, _, h4⟩ := (jact_load (b := b) (off := off + k * 4) (a := l[k]) (fun i hi => by rw [Nat.add_assoc]; exact hc i hi))
        exact ⟨(hW.cell (p := ⟨b, _, none⟩) hb).trans h2, (hW.cell (p := ⟨b, _, none⟩) hb).trans h4⟩)
      obtain ⟨cx, cc, hcv⟩ := ho.rd.form
      rw [hcv] at HC
      obtain ⟨kx, kc, hkv⟩ := ho.kv.formJ
      rw [hkv] at HC
      obtain ⟨lk, hlk⟩ : ∃ lk, lk = l[k].cells := ⟨_, rfl⟩
      obtain ⟨kk, hkk⟩ : ∃ kk, kk = l[k].keep := ⟨_, rfl⟩
      have HRD := Lib.hid (fun (W : World) (hW : Below w.heap.size w W) => show RdC W (.slice cx lk.length cc) lk from by
        have h2 := ho.rd.below hW
        rw [hcv] at h2
        rw [hlk]
        exact h2)
      have HRK := Lib.hid (fun (W : World) (hW : Below w.heap.size w W) => show KeepR W (fun g => w.heap.size ≤ g) (.slice kx kk.length kc) kk from by
        have h2 := ho.kv.chg (T := fun _ => False) (Chg.of_below hW) (fun _ e => e.elim)
        rw [hkv] at h2
        rw [hkk]
        exact h2)
      have H20 := Lib.hid (show Lot20 lk from by rw [hlk]; exact Lot20.of (HSM.out.2 k hkl).1 ho.bnd)
      have HK20 := Lib.hid (show kk.length ≤ 20 from by rw [hkk]; exact (HSM.out.2 k hkl).2)
      rw [← hlk, ← hkk] at HC
      obtain ⟨ln, hln⟩ : ∃ ln, ln = lk.length := ⟨_, rfl⟩
      obtain ⟨kn, hkn⟩ : ∃ kn, kn = kk.length := ⟨_, rfl⟩
      rw [← hln, ← hkn] at HC
      rw [← hln] at HRD
      rw [← hkn] at HRK
      have HLN := Lib.hid hln
      have HKN := Lib.hid hkn
      obtain ⟨c1, c3⟩ := HC.out wr HBR.out
      clear hc ho hcv hkv hlk hkk hln hkn hb
      by_cases hka : k < an
      · have hkal : k < al.length := by rw [← Han.out]; exact hka
        obtain ⟨hz1, hz2, ab, aoff, rfl, hab, hac⟩ := Hea.out k hkal
        obtain ⟨az, haz⟩ : ∃ az, az = al[k] := ⟨_, rfl⟩
        have HAC := Lib.hid (fun (W : World) (hW : Below w.heap.size w W) => show W.cell? ⟨ab, aoff + k, none⟩ = some (.int .u8 az) from by
          rw [haz]
          exact (hW.cell (p := ⟨ab, _, none⟩) hab).trans hac)
        rw [← haz] at hz1 hz2
        have c0 := HAC.out wr HBR.out
        have tka : decide ((k : Int) < an) = true := decide_eq_true (by omega)
        clear hac haz
        have HA15 := Lib.hid (And.intro hz1 hz2)
        clear hz1 hz2
        go_wp2_with fail
        refine wp_region_two (T := fun W => W.cell? ⟨ab, aoff + k, none⟩ = some (.int .u8 az) ∧ W.cell? ⟨b, off + k * 4 + 3, none⟩ = some (.slice kx kn kc)) (S := fun _ => True) (n := 99) (by kernel_rfl) ?_
        obtain ⟨y1, hy1⟩ : ∃ y, y = wr.drew := ⟨_, rfl⟩
        rw [← hy1]
        have hby : Below wr.heap.size wr y1 := by rw [hy1]; exact (Below.refl _ _).drew
        have HMy1 := Lib.hid (HJ.out.below hby)
        have HSy1 := Lib.hid (HS.out.below hby)
        have HBy1 := Lib.hid (HBR.out.trans (hby.mono HBR.out.size))
        have hS : True := trivial
        have hT : y1.cell? ⟨ab, aoff + k, none⟩ = some (.int .u8 az) ∧ y1.cell? ⟨b, off + k * 4 + 3, none⟩ = some (.slice kx kn kc) := ⟨HAC.out y1 HBy1.out, (HC.out y1 HBy1.out).2⟩
        clear hy1 hby c0 c1 c3
        refine two_takeT 0 (some 45) (v := ?_) rfl rfl (by kernel_rfl) (by kernel_rfl) (by kernel_rfl) (by decide) (fun _ _ _ h => h) (Or.inl ⟨by rfl, ?hy0⟩) hT hS ?_
        case hy0 => (intro w' hT'; (try unfold T8 at hT'); (try unfold T9 at hT'); (try unfold S8 at hT'); go_simp; (try with_reducible rfl))
        try simp only [Act.put, List.setIfInBounds_toArray, List.set_cons_zero, List.set_cons_succ]
        refine two_takeT 1 (some 46) (v := ?_) rfl rfl (by kernel_rfl) (by kernel_rfl) (by kernel_rfl) (by decide) (fun _ _ _ h => h) (Or.inl ⟨by rfl, ?hy1⟩) hT hS ?_
        case hy1 => (intro w' hT'; (try unfold T8 at hT'); (try unfold T9 at hT'); (try unfold S8 at hT'); go_simp; (try with_reducible rfl))
        try simp only [Act.put, List.setIfInBounds_toArray, List.set_cons_zero, List.set_cons_succ]
        refine two_takeT 2 (some 47) (v := ?_) rfl rfl (by kernel_rfl) (by kernel_rfl) (by kernel_rfl) (by decide) (fun _ _ _ h => h) (Or.inl ⟨by rfl, ?hy2⟩) hT hS ?_
        case hy2 => (intro w' hT'; (try unfold T8 at hT'); (try unfold T9 at hT'); (try unfold S8 at hT'); go_simp; (try with_reducible rfl))
        try simp only [Act.put, List.setIfInBounds_toArray, List.set_cons_zero, List.set_cons_succ]
        refine two_takeT 3 (some 48) (v := ?_) rfl rfl (by kernel_rfl) (by kernel_rfl) (by kernel_rfl) (by decide) (fun _ _ _ h => h) (Or.inl ⟨by rfl, ?hy3⟩) hT hS ?_
        case hy3 => (intro w' hT'; (try unfold T8 at hT'); (try unfold T9 at hT'); (try unfold S8 at hT'); go_simp; (try with_reducible rfl))
        try simp only [Act.put, List.setIfInBounds_toArray, List.set_cons_zero, List.set_cons_succ]
        refine two_takeT 4 (some 49) (v := ?_) rfl rfl (by kernel_rfl) (by kernel_rfl) (by kernel_rfl) (by decide) (fun _ _ _ h => h) (Or.inl ⟨by rfl, ?hy4⟩) hT hS ?_
        case hy4 => (intro w' hT'; (try unfold T8 at hT'); (try unfold T9 at hT'); (try unfold S8 at hT'); go_simp; (try with_reducible rfl))
        try simp only [Act.put, List.setIfInBounds_toArray, List.set_cons_zero, List.set_cons_succ]
        refine two_takeT 5 (some 50) (v := ?_) rfl rfl (by kernel_rfl) (by kernel_rfl) (by kernel_rfl) (by decide) (fun _ _ _ h => h) (Or.inl ⟨by rfl, ?hy5⟩) hT hS ?_
        case hy5 => (intro w' hT'; (try unfold T8 at hT'); (try unfold T9 at hT'); (try unfold S8 at hT'); go_simp; (try with_reducible rfl))
        try simp only [Act.put, List.setIfInBounds_toArray, List.set_cons_zero, List.set_cons_succ]
        refine two_takeT 6 (some 51) (v := ?_) rfl rfl (by kernel_rfl) (by kernel_rfl) (by kernel_rfl) (by decide) (fun _ _ _ h => h) (Or.inl ⟨by rfl, ?hy6⟩) hT hS ?_
        case hy6 => (intro w' hT'; (try unfold T8 at hT'); (try unfold T9 at hT'); (try unfold S8 at hT'); go_simp; (try with_reducible rfl))
        try simp only [Act.put, List.setIfInBounds_toArray, List.set_cons_zero, List.set_cons_succ]
        refine two_takeT 7 (some 52) (v := ?_) rfl rfl (by kernel_rfl) (by kernel_rfl) (by kernel_rfl) (by decide) (fun _ _ _ h => h) (Or.inl ⟨by rfl, ?hy7⟩) hT hS ?_
        case hy7 => (intro w' hT'; (try unfold T8 at hT'); (try unfold T9 at hT'); (try unfold S8 at hT'); go_simp; (try with_reducible rfl))
        try simp only [Act.put, List.setIfInBounds_toArray, List.set_cons_zero, List.set_cons_succ]
        refine two_takeT 8 (some 53) (v := ?_) rfl rfl (by kernel_rfl) (by kernel_rfl) (by kernel_rfl) (by decide) (fun _ _ _ h => h) (Or.inl ⟨by rfl, ?hy8⟩) hT hS ?_
        case hy8 => (intro w' hT'; (try unfold T8 at hT'); (try unfold T9 at hT'); (try unfold S8 at hT'); go_simp; (try with_reducible rfl))
        try simp only [Act.put, List.setIfInBounds_toArray, List.set_cons_zero, List.set_cons_succ]
        refine two_takeT 9 (some 54) (v := ?_) rfl rfl (by kernel_rfl) (by kernel_rfl) (by kernel_rfl) (by decide) (fun _ _ _ h => h) (Or.inl ⟨by rfl, ?hy9⟩) hT hS ?_
        case hy9 => (intro w' hT'; (try unfold T8 at hT'); (try unfold T9 at hT'); (try unfold S8 at hT'); go_simp; (try with_reducible rfl))
        try simp only [Act.put, List.setIfInBounds_toArray, List.set_cons_zero, List.set_cons_succ]
        refine two_takeT 10 (some 55) (v := ?_) rfl rfl (by kernel_rfl) (by kernel_rfl) (by kernel_rfl) (by decide) (fun _ _ _ h => h) (Or.inl ⟨by rfl, ?hy10⟩) hT hS ?_
        case hy10 => (intro w' hT'; (try unfold T8 at hT'); (try unfold T9 at hT'); (try unfold S8 at hT'); go_simp; (try with_reducible rfl))
        try simp only [Act.put, List.setIfInBounds_toArray, List.set_cons_zero, List.set_cons_succ]
        refine two_takeT 11 (some 56) (v := ?_) rfl rfl (by kernel_rfl) (by kernel_rfl) (by kernel_rfl) (by decide) (fun _ _ _ h => h) (Or.inl ⟨by rfl, ?hy11⟩) hT hS ?_
        case hy11 => (intro w' hT'; (try unfold T8 at hT'); (try unfold T9 at hT'); (try unfold S8 at hT'); go_simp; (try with_reducible rfl))
        try simp only [Act.put, List.setIfInBounds_toArray, List.set_cons_zero, List.set_cons_succ]
        refine two_takeT 12 (some 57) (v := ?_) rfl rfl (by kernel_rfl) (by kernel_rfl) (by kernel_rfl) (by decide) (fun _ _ _ h => h) (Or.inl ⟨by rfl, ?hy12⟩) hT hS ?_
        case hy12 => (intro w' hT'; (try unfold T8 at hT'); (try unfold T9 at hT'); (try unfold S8 at hT'); go_simp; (try with_reducible rfl))
        try simp only [Act.put, List.setIfInBounds_toArray, List.set_cons_zero, List.set_cons_succ]
        refine two_takeT 13 (some 58) (v := ?_) rfl rfl (by kernel_rfl) (by kernel_rfl) (by kernel_rfl) (by decide) (fun _ _ _ h => h) (Or.inl ⟨by rfl, ?hy13⟩) hT hS ?_
        case hy13 => (intro w' hT'; (try unfold T8 at hT'); (try unfold T9 at hT'); (try unfold S8 at hT'); go_simp; (try with_reducible rfl))
        try simp only [Act.put, List.setIfInBounds_toArray, List.set_cons_zero, List.set_cons_succ]
        refine two_takeT 14 (some 59) (v := ?_) rfl rfl (by kernel_rfl) (by kernel_rfl) (by kernel_rfl) (by decide) (fun _ _ _ h => h) (Or.inl ⟨by rfl, ?hy14⟩) hT hS ?_
        case hy14 => (intro w' hT'; (try unfold T8 at hT'); (try unfold T9 at hT'); (try unfold S8 at hT'); go_simp; (try with_reducible rfl))
        try simp only [Act.put, List.setIfInBounds_toArray, List.set_cons_zero, List.set_cons_succ]
        refine two_takeT 15 (some 60) (v := ?_) rfl rfl (by kernel_rfl) (by kernel_rfl) (by kernel_rfl) (by decide) (fun _ _ _ h => h) (Or.inl ⟨by rfl, ?hy15⟩) hT hS ?_
        case hy15 => (intro w' hT'; (try unfold T8 at hT'); (try unfold T9 at hT'); (try unfold S8 at hT'); go_simp; (try with_reducible rfl))
        try simp only [Act.put, List.setIfInBounds_toArray, List.set_cons_zero, List.set_cons_succ]
        refine two_takeT 16 (some 61) (v := ?_) rfl rfl (by kernel_rfl) (by kernel_rfl) (by kernel_rfl) (by decide) (fun _ _ _ h => h) (Or.inl ⟨by rfl, ?hy16⟩) hT hS ?_
        case hy16 => (intro w' hT'; (try unfold T8 at hT'); (try unfold T9 at hT'); (try unfold S8 at hT'); go_simp; (try with_reducible rfl))
        try simp only [Act.put, List.setIfInBounds_toArray, List.set_cons_zero, List.set_cons_succ]
        refine two_one 17 rfl (by kernel_rfl) ?_
        intro K hK
        go_simp
        obtain ⟨q, hq⟩ : ∃ q, q = (IntKind.i64.wrap az).tmod 4 := ⟨_, rfl⟩
        have hq0 : 0 ≤ q ∧ q ≤ 3 := by
          have h1 := HA15.out.1
          have h2 := HA15.out.2
          have e : IntKind.i64.wrap az = az := by rw [IntKind.wrap_i64]; omega
          rw [hq, e, Int.tmod_eq_emod_of_nonneg h1]
          omega
        rw [← hq]
        have hfa : d.failAt q kk = (0, { d with fail := some q, keep := kk }) := by
          unfold Dk.failAt
          rw [HD.out.1, if_neg (by decide), if_neg (by omega)]
        obtain ⟨df, hdf⟩ : ∃ df : Dk, df = { d with fail := some q, keep := kk } := ⟨_, rfl⟩
        have HDF := Lib.hid (show df.off = false ∧ df.starts = st ∧ JF 1 lots df.files ∧ FOk df ∧ df.room = 1048576 by
          rw [hdf]
          exact ⟨HD.out.1, HD.out.2.1, HD.out.2.2.1, fun m e => (by
            have e2 : q = m := by simpa using e
            omega), HD.out.2.2.2.2⟩)
        rw [← hdf] at hfa
        refine (HMy1.out.live.failK q (by omega) _ kk (HRK.out y1 HBy1.out) (by have := HK20.out; omega) hfa).mono ?_
        clear hfa hdf hq
        rintro e y2 ⟨rfl, hl2, hk2⟩
        have HMy2 := Lib.hid (HMy1.out.turn hl2 hk2)
        have HSy2 := Lib.hid (HSy1.out.keeps hk2)
        have HBy2 := Lib.hid hl2.below
        have hT1 : y2.cell? ⟨ab, aoff + k, none⟩ = some (.int .u8 az) ∧ y2.cell? ⟨b, off + k * 4 + 3, none⟩ = some (.slice kx kn kc) := ⟨HAC.out y2 HBy2.out, (HC.out y2 HBy2.out).2⟩
        refine hK.out _ _ hT1 (fun _ _ => hS) ?_
        clear hK K hT hl2 hk2 hq0
        have hT := hT1
        clear hT1
        try simp only [Act.put, List.setIfInBounds_toArray, List.set_cons_zero, List.set_cons_succ]
        refine two_takeT 18 (some 63) (v := ?_) rfl rfl (by kernel_rfl) (by kernel_rfl) (by kernel_rfl) (by decide) (fun _ _ _ h => h) (Or.inl ⟨by rfl, ?hy18⟩) hT hS ?_
        case hy18 => (intro w' hT'; (try unfold T8 at hT'); (try unfold T9 at hT'); (try unfold S8 at hT'); go_simp; (try with_reducible rfl))
        try simp only [Act.put, List.setIfInBounds_toArray, List.set_cons_zero, List.set_cons_succ]
        refine two_takeT 19 (some 64) (v := ?_) rfl rfl (by kernel_rfl) (by kernel_rfl) (by kernel_rfl) (by decide) (fun _ _ _ h => h) (Or.inl ⟨by rfl, ?hy19⟩) hT hS ?_
        case hy19 => (intro w' hT'; (try unfold T8 at hT'); (try unfold T9 at hT'); (try unfold S8 at hT'); go_simp; (try with_reducible rfl))
        try simp only [Act.put, List.setIfInBounds_toArray, List.set_cons_zero, List.set_cons_succ]
        refine two_done (by kernel_rfl) ?_ _
        clear hT hS tka
        have c1 := (HC.out y2 HBy2.out).1
        -- from Append on: world y2, the journal HMy2, the row HSy2, the disk's facts
        go_wp2_with fail
        refine (japp_laid (k := k) HMy2.out HDF.out.1 HDF.out.2.1 HN.out (HRD.out y2 HBy2.out) H20.out HDF.out.2.2.1 HDF.out.2.2.2.1 HOK.out).mono ?_
        rintro e w3 ⟨r, bad, d2, rfl, hla, hj3, hk3⟩
        have HS3 := Lib.hid (HSy2.out.jk hk3)
        have HB3 := Lib.hid hj3.live.below
        have HJ3 := Lib.hid hj3
        have c3 := HC.out w3 hj3.live.below
        obtain ⟨w4, hw4⟩ : ∃ w4, w4 = w3.drew := ⟨_, rfl⟩
        have hb34 : Below w3.heap.size w3 w4 := by rw [hw4]; exact (Below.refl _ _).drew
        have HB4 := Lib.hid (HB3.out.trans (hb34.mono HB3.out.size))
        have HB34 := Lib.hid hb34
        have HW4 := Lib.hid hw4
        have hz4 := hb34.size
        clear hk3 c1 hb34 hw4 hj3
        go_wp2_with fail
        refine wp_region_two (T := fun W => W.cell? ⟨b, off + k * 4 + 1, none⟩ = some (.slice cx ln cc)) (S := fun _ => True) (n := 99) (by kernel_rfl) ?_
        rw [← HW4.out]
        have hS : True := trivial
        have hT : w4.cell? ⟨b, off + k * 4 + 1, none⟩ = some (.slice cx ln cc) := (HC.out w4 HB4.out).1
        refine two_takeT 0 (some 72) (v := ?_) rfl rfl (by kernel_rfl) (by kernel_rfl) (by kernel_rfl) (by decide) (fun _ _ _ h => h) (Or.inl ⟨by rfl, ?hy0⟩) hT hS ?_
        case hy0 => (intro w' hT'; (try unfold T8 at hT'); (try unfold T9 at hT'); (try unfold S8 at hT'); go_simp; (try with_reducible rfl))
        try simp only [Act.put, List.setIfInBounds_toArray, List.set_cons_zero, List.set_cons_succ]
        refine two_takeT 2 (some 74) (v := ?_) rfl rfl (by kernel_rfl) (by kernel_rfl) (by kernel_rfl) (by decide) (fun _ _ _ h => h) (Or.inl ⟨by rfl, ?hy2⟩) hT hS ?_
        case hy2 => (intro w' hT'; (try unfold T8 at hT'); (try unfold T9 at hT'); (try unfold S8 at hT'); go_simp; (try with_reducible rfl))
        try simp only [Act.put, List.setIfInBounds_toArray, List.set_cons_zero, List.set_cons_succ]
        refine two_takeT 3 (some 75) (v := ?_) rfl rfl (by kernel_rfl) (by kernel_rfl) (by kernel_rfl) (by decide) (fun _ _ _ h => h) (Or.inl ⟨by rfl, ?hy3⟩) hT hS ?_
        case hy3 => (intro w' hT'; (try unfold T8 at hT'); (try unfold T9 at hT'); (try unfold S8 at hT'); go_simp; (try with_reducible rfl))
        try simp only [Act.put, List.setIfInBounds_toArray, List.set_cons_zero, List.set_cons_succ]
        refine two_takeT 4 (some 76) (v := ?_) rfl rfl (by kernel_rfl) (by kernel_rfl) (by kernel_rfl) (by decide) (fun _ _ _ h => h) (Or.inl ⟨by rfl, ?hy4⟩) hT hS ?_
        case hy4 => (intro w' hT'; (try unfold T8 at hT'); (try unfold T9 at hT'); (try unfold S8 at hT'); go_simp; (try with_reducible rfl))
        try simp only [Act.put, List.setIfInBounds_toArray, List.set_cons_zero, List.set_cons_succ]
        refine two_takeT 5 (some 77) (v := ?_) rfl rfl (by kernel_rfl) (by kernel_rfl) (by kernel_rfl) (by decide) (fun _ _ _ h => h) (Or.inl ⟨by rfl, ?hy5⟩) hT hS ?_
        case hy5 => (intro w' hT'; (try unfold T8 at hT'); (try unfold T9 at hT'); (try unfold S8 at hT'); go_simp; (try with_reducible rfl))
        try simp only [Act.put, List.setIfInBounds_toArray, List.set_cons_zero, List.set_cons_succ]
        refine two_takeT 6 (some 78) (v := ?_) rfl rfl (by kernel_rfl) (by kernel_rfl) (by kernel_rfl) (by decide) (fun _ _ _ h => h) (Or.inl ⟨by rfl, ?hy6⟩) hT hS ?_
        case hy6 => (intro w' hT'; (try unfold T8 at hT'); (try unfold T9 at hT'); (try unfold S8 at hT'); go_simp; (try with_reducible rfl))
        try simp only [Act.put, List.setIfInBounds_toArray, List.set_cons_zero, List.set_cons_succ]
        refine two_one 1 rfl (by kernel_rfl) ?_
        intro K hK
        refine step_append_cells rfl (.const (.slice none 0 0)) (.tmp 72) (by rfl) w4.heap.size (.slice none 0 0) [] (by rfl) (OwnC.nil _ _) _ lots.flatten (by rfl) ((HS3.out.below HB34.out).own.rd) (by have := HOK.out.flat; simp only [List.length_nil]; omega) (Nat.le_refl _) ?_
        intro v5 w5 hown5 hb5
        have HB5 := Lib.hid (HB4.out.trans (hb5.mono HB4.out.size))
        have HB45 := Lib.hid hb5
        have hT5 : w5.cell? ⟨b, off + k * 4 + 1, none⟩ = some (.slice cx ln cc) := (HC.out w5 HB5.out).1
        have HO5 := Lib.hid hown5
        refine hK.out _ _ hT5 (fun _ _ => hS) ?_
        clear hK K hT hown5 hb5
        have hT := hT5
        clear hT5
        try simp only [Act.put, List.setIfInBounds_toArray, List.set_cons_zero, List.set_cons_succ]
        refine two_one 7 rfl (by kernel_rfl) ?_
        intro K hK
        refine step_append_cells rfl (.tmp 73) (.tmp 78) (by rfl) w4.heap.size _ ([] ++ lots.flatten) (by rfl) HO5.out _ lk (by rfl) (HRD.out w5 HB5.out) (by have := HOK.out.flat; have := H20.out.len; simp only [List.nil_append]; omega) HB45.out.size ?_
        intro v6 w6 hown6 hb6
        have HB46 := Lib.hid (HB45.out.trans hb6)
        have hT6 : w6.cell? ⟨b, off + k * 4 + 1, none⟩ = some (.slice cx ln cc) := (hb6.cell (p := ⟨b, _, none⟩) (by have := HBL.out; have := HB4.out.size; show b < _; omega)).trans hT
        have HO6 := Lib.hid (show OwnC w6 w4.heap.size v6 (lots.flatten ++ lk) by rw [List.nil_append] at hown6; exact hown6)
        refine hK.out _ _ hT6 (fun _ _ => hS) ?_
        clear hK K hT hown6 hb6
        have hT := hT6
        clear hT6
        try simp only [Act.put, List.setIfInBounds_toArray, List.set_cons_zero, List.set_cons_succ]
        refine two_takeT 8 (some 13) (v := ?_) rfl rfl (by kernel_rfl) (by kernel_rfl) (by kernel_rfl) (by decide) (fun _ _ _ h => h) (Or.inl ⟨by rfl, ?hy8⟩) hT hS ?_
        case hy8 => (intro w' hT'; (try unfold T8 at hT'); (try unfold T9 at hT'); (try unfold S8 at hT'); go_simp; (try with_reducible rfl))
        try simp only [Act.put, List.setIfInBounds_toArray, List.set_cons_zero, List.set_cons_succ]
        refine two_done (by kernel_rfl) ?_ _
        clear hT hS
        have HJ6 := Lib.hid ((HJ3.out.below HB34.out).add HB46.out)
        have HS6 := Lib.hid (((HS3.out.below HB34.out).below HB46.out).mono (Y := Also Y2 w4 w6) (fun k e => .inl e))
        have HW6 := Lib.hid (SureC.new (HJ3.out.below HB34.out) HO6.out)
        have hup := HJ6.out.live.up
        have HUP := Lib.hid hup
        clear hup
        go_wp2_with fail
        cases hla with
        | no _ hr hr2 =>
          have t3 : (r == 0) = false := beq_eq_false_iff_ne.2 hr
          rw [HDF.out.1] at HUP
          clear hr hr2
          refine HUP.out.mono ?_
          rintro e w7 ⟨rfl, rfl⟩
          go_wp2_with fail
          go_roundw
          case rel => exact ⟨k+1, by go_num, by omega, lots, _, _, _, _, rfl, HJ6.out, HS6.out, HDF.out.1, HDF.out.2.1, HDF.out.2.2.1, HOK.out.next, HDF.out.2.2.2.1, HDF.out.2.2.2.2⟩
          case measure => simp [intOf]; omega
        | yes _ lots2 hoff2 hst2 hroom2 hfail2 hfo2 hf2 hok2 hfl2 =>
          rw [hoff2] at HUP
          have HI3 := Lib.hid (And.intro hoff2 (And.intro (hst2.trans HDF.out.2.1) (And.intro hf2 (And.intro hok2 (And.intro hfo2 (And.intro (hroom2.trans HDF.out.2.2.2.2) hfl2))))))
          clear hoff2 hst2 hroom2 hfail2 hfo2 hf2 hok2 hfl2
          refine HUP.out.mono ?_
          rintro e w7 ⟨rfl, rfl⟩
          go_wp2_with fail
          go_roundw
          case rel => exact ⟨k+1, by go_num, by omega, lots2, _, _, _, _, rfl, HJ6.out, (by rw [HI3.out.2.2.2.2.2.2]; exact HW6.out), HI3.out.1, HI3.out.2.1, HI3.out.2.2.1, HI3.out.2.2.2.1, HI3.out.2.2.2.2.1, HI3.out.2.2.2.2.2.1⟩
          case measure => simp [intOf]; omega
        | crash _ t hne hoff2 hst2 hroom2 hfail2 hlok hok1 hf2 =>
          rw [hoff2] at HUP
          obtain ⟨d3, e1, a1, a2, a3, a4, a5⟩ := start_one hoff2
          have hfl3 := a2.trans hf2
          have E1 := Lib.hid e1
          have HI3 := Lib.hid (And.intro a1 (And.intro (a3.trans hfail2) (And.intro (a4.trans (hroom2.trans HDF.out.2.2.2.2)) hfl3)))
          have HLK := Lib.hid hlok
          have HK1 := Lib.hid hok1
          clear hoff2 hst2 hroom2 hfail2 hf2 e1 a1 a2 a3 a4 a5 hfl3 hlok hok1 hne
          refine HUP.out.mono ?_
          rintro e w7 ⟨rfl, rfl⟩
          go_wp2_with fail
          refine (HJ6.out.live.startK E1.out).mono ?_
          rintro e w8 ⟨rfl, hl8, hk8⟩
          have HL8 := Lib.hid hl8
          have HS8 := Lib.hid (HS6.out.keeps hk8)
          have HW8 := Lib.hid (HW6.out.keeps hk8)
          clear hl8 hk8
          go_wp2_with fail
          obtain ⟨d4, lots4, hlots4, hok4, hcall, hoff4, hf4, hfo4, hroom4, hst4⟩ := jopen_torn (k := k) (t := t) HL8.out HI3.out.1 HN.out HOK.out (by omega) HLK.out HK1.out HI3.out.2.1 HI3.out.2.2.1 HI3.out.2.2.2
          have HCA := Lib.hid hcall
          have HI4 := Lib.hid (And.intro hoff4 (And.intro hst4 (And.intro hf4 (And.intro hok4 (And.intro hfo4 hroom4)))))
          clear hcall hoff4 hf4 hok4 hfo4 hroom4 hst4
          refine HCA.out.mono ?_
          rintro e w9 ⟨o, u, Y4, rfl, _, hj9, hu9, hux9, hk9, _⟩
          obtain ⟨ux2, uc2, hus2⟩ := hu9.rd.form
          subst hus2
          have HJ9 := Lib.hid hj9
          have HU9 := Lib.hid (show SureC w Y4 w9 o (.slice ux2 lots4.flatten.length uc2) lots4.flatten from ⟨hu9.base HL8.out.size, hux9⟩)
          have HS9 := Lib.hid (HS8.out.keeps hk9).own.rd
          have HW9 := Lib.hid (HW8.out.keeps hk9).own.rd
          have hl4 := HI4.out.2.2.2.1.flat
          clear hj9 hu9 hux9 hk9
          by_cases hsame : lots4.flatten = lots.flatten
          · have HSC := Lib.hid (sameCells_any _ _ _ _ w9 HU9.out.own.rd HS9.out (by omega) (by have := HOK.out.flat; omega))
            rw [sameC_true hsame] at HSC
            obtain ⟨un4, hun4⟩ : ∃ un4, un4 = lots4.flatten.length := ⟨_, rfl⟩
            have HUN4 := Lib.hid hun4
            rw [← hun4] at HSC HU9 ⊢
            clear hsame hlots4 hl4 hun4
            go_wp2_with fail
            refine HSC.out.mono ?_
            rintro e w10 ⟨rfl, hb10⟩
            have HB10 := Lib.hid hb10
            clear hb10
            go_wp2_with fail
            go_roundw
            case rel => exact ⟨k+1, by go_num, by omega, lots4, _, Y4, o, _, rfl, HJ9.out.below HB10.out, HU9.out.below HB10.out, HI4.out.1, HI4.out.2.1, HI4.out.2.2.1, HI4.out.2.2.2.1, HI4.out.2.2.2.2.1, HI4.out.2.2.2.2.2⟩
            case measure => simp [intOf]; omega
          · have hwill : lots4.flatten = lots.flatten ++ lk := by
              rcases hlots4 with e | e
              · exact absurd (by rw [e]) hsame
              · rw [e, List.flatten_append]; simp
            have HSC := Lib.hid (sameCells_any _ _ _ _ w9 HU9.out.own.rd HS9.out (by omega) (by have := HOK.out.flat; omega))
            rw [sameC_false hsame] at HSC
            have HSD := Lib.hid (fun (W : World) (hW : Below w9.heap.size w9 W) => sameCells_any _ _ _ _ W (HU9.out.own.rd.below hW) (HW9.out.below hW) (by omega) (by have := HOK.out.flat; have := H20.out.len; rw [List.length_append]; omega))
            rw [sameC_true hwill] at HSD
            obtain ⟨un4, hun4⟩ : ∃ un4, un4 = lots4.flatten.length := ⟨_, rfl⟩
            have HUN4 := Lib.hid hun4
            rw [← hun4] at HSC HU9 HSD ⊢
            clear hsame hlots4 hl4 hun4 hwill
            go_wp2_with fail
            refine HSC.out.mono ?_
            rintro e w10 ⟨rfl, hb10⟩
            have HB10 := Lib.hid hb10
            clear hb10
            go_wp2_with fail
            refine (HSD.out w10 HB10.out).mono ?_
            rintro e w11 ⟨rfl, hb11⟩
            have HB11 := Lib.hid (HB10.out.trans (hb11.mono HB10.out.size))
            clear hb11
            go_wp2_with fail
            go_roundw
            case rel => exact ⟨k+1, by go_num, by omega, lots4, _, Y4, o, _, rfl, HJ9.out.below HB11.out, HU9.out.below HB11.out, HI4.out.1, HI4.out.2.1, HI4.out.2.2.1, HI4.out.2.2.2.1, HI4.out.2.2.2.2.1, HI4.out.2.2.2.2.2⟩
            case measure => simp [intOf]; omega
      · have tka : decide ((k : Int) < an) = false := decide_eq_false (by omega)
        have hka2 : ¬ ((k : Int) < an) := by omega
        go_wp2_with fail
        go_quiet (fail)
        obtain ⟨y2, hy2⟩ : ∃ y, y = wr.drewN nq := ⟨_, rfl⟩
        rw [← hy2]
        have hby : Below wr.heap.size wr y2 := by rw [hy2]; exact below_drewN _ _
        have HMy2 := Lib.hid (HJ.out.below hby)
        have HSy2 := Lib.hid (HS.out.below hby)
        have HBy2 := Lib.hid (HBR.out.trans (hby.mono HBR.out.size))
        clear hy2 hby c1 c3 tka hka2
        have c1 := (HC.out y2 HBy2.out).1
        -- from Append on: world y2, the journal HMy2, the row HSy2, the disk's facts
        go_wp2_with fail
        refine (japp_laid (k := k) HMy2.out HD.out.1 HD.out.2.1 HN.out (HRD.out y2 HBy2.out) H20.out HD.out.2.2.1 HD.out.2.2.2.1 HOK.out).mono ?_
        rintro e w3 ⟨r, bad, d2, rfl, hla, hj3, hk3⟩
        have HS3 := Lib.hid (HSy2.out.jk hk3)
        have HB3 := Lib.hid hj3.live.below
        have HJ3 := Lib.hid hj3
        have c3 := HC.out w3 hj3.live.below
        obtain ⟨w4, hw4⟩ : ∃ w4, w4 = w3.drew := ⟨_, rfl⟩
        have hb34 : Below w3.heap.size w3 w4 := by rw [hw4]; exact (Below.refl _ _).drew
        have HB4 := Lib.hid (HB3.out.trans (hb34.mono HB3.out.size))
        have HB34 := Lib.hid hb34
        have HW4 := Lib.hid hw4
        have hz4 := hb34.size
        clear hk3 c1 hb34 hw4 hj3
        go_wp2_with fail
        refine wp_region_two (T := fun W => W.cell? ⟨b, off + k * 4 + 1, none⟩ = some (.slice cx ln cc)) (S := fun _ => True) (n := 99) (by kernel_rfl) ?_
        rw [← HW4.out]
        have hS : True := trivial
        have hT : w4.cell? ⟨b, off + k * 4 + 1, none⟩ = some (.slice cx ln cc) := (HC.out w4 HB4.out).1
        refine two_takeT 0 (some 72) (v := ?_) rfl rfl (by kernel_rfl) (by kernel_rfl) (by kernel_rfl) (by decide) (fun _ _ _ h => h) (Or.inl ⟨by rfl, ?hy0⟩) hT hS ?_
        case hy0 => (intro w' hT'; (try unfold T8 at hT'); (try unfold T9 at hT'); (try unfold S8 at hT'); go_simp; (try with_reducible rfl))
        try simp only [Act.put, List.setIfInBounds_toArray, List.set_cons_zero, List.set_cons_succ]
        refine two_takeT 2 (some 74) (v := ?_) rfl rfl (by kernel_rfl) (by kernel_rfl) (by kernel_rfl) (by decide) (fun _ _ _ h => h) (Or.inl ⟨by rfl, ?hy2⟩) hT hS ?_
        case hy2 => (intro w' hT'; (try unfold T8 at hT'); (try unfold T9 at hT'); (try unfold S8 at hT'); go_simp; (try with_reducible rfl))
        try simp only [Act.put, List.setIfInBounds_toArray, List.set_cons_zero, List.set_cons_succ]
        refine two_takeT 3 (some 75) (v := ?_) rfl rfl (by kernel_rfl) (by kernel_rfl) (by kernel_rfl) (by decide) (fun _ _ _ h => h) (Or.inl ⟨by rfl, ?hy3⟩) hT hS ?_
        case hy3 => (intro w' hT'; (try unfold T8 at hT'); (try unfold T9 at hT'); (try unfold S8 at hT'); go_simp; (try with_reducible rfl))
        try simp only [Act.put, List.setIfInBounds_toArray, List.set_cons_zero, List.set_cons_succ]
        refine two_takeT 4 (some 76) (v := ?_) rfl rfl (by kernel_rfl) (by kernel_rfl) (by kernel_rfl) (by decide) (fun _ _ _ h => h) (Or.inl ⟨by rfl, ?hy4⟩) hT hS ?_
        case hy4 => (intro w' hT'; (try unfold T8 at hT'); (try unfold T9 at hT'); (try unfold S8 at hT'); go_simp; (try with_reducible rfl))
        try simp only [Act.put, List.setIfInBounds_toArray, List.set_cons_zero, List.set_cons_succ]
        refine two_takeT 5 (some 77) (v := ?_) rfl rfl (by kernel_rfl) (by kernel_rfl) (by kernel_rfl) (by decide) (fun _ _ _ h => h) (Or.inl ⟨by rfl, ?hy5⟩) hT hS ?_
        case hy5 => (intro w' hT'; (try unfold T8 at hT'); (try unfold T9 at hT'); (try unfold S8 at hT'); go_simp; (try with_reducible rfl))
        try simp only [Act.put, List.setIfInBounds_toArray, List.set_cons_zero, List.set_cons_succ]
        refine two_takeT 6 (some 78) (v := ?_) rfl rfl (by kernel_rfl) (by kernel_rfl) (by kernel_rfl) (by decide) (fun _ _ _ h => h) (Or.inl ⟨by rfl, ?hy6⟩) hT hS ?_
        case hy6 => (intro w' hT'; (try unfold T8 at hT'); (try unfold T9 at hT'); (try unfold S8 at hT'); go_simp; (try with_reducible rfl))
        try simp only [Act.put, List.setIfInBounds_toArray, List.set_cons_zero, List.set_cons_succ]
        refine two_one 1 rfl (by kernel_rfl) ?_
        intro K hK
        refine step_append_cells rfl (.const (.slice none 0 0)) (.tmp 72) (by rfl) w4.heap.size (.slice none 0 0) [] (by rfl) (OwnC.nil _ _) _ lots.flatten (by rfl) ((HS3.out.below HB34.out).own.rd) (by have := HOK.out.flat; simp only [List.length_nil]; omega) (Nat.le_refl _) ?_
        intro v5 w5 hown5 hb5
        have HB5 := Lib.hid (HB4.out.trans (hb5.mono HB4.out.size))
        have HB45 := Lib.hid hb5
        have hT5 : w5.cell? ⟨b, off + k * 4 + 1, none⟩ = some (.slice cx ln cc) := (HC.out w5 HB5.out).1
        have HO5 := Lib.hid hown5
        refine hK.out _ _ hT5 (fun _ _ => hS) ?_
        clear hK K hT hown5 hb5
        have hT := hT5
        clear hT5
        try simp only [Act.put, List.setIfInBounds_toArray, List.set_cons_zero, List.set_cons_succ]
        refine two_one 7 rfl (by kernel_rfl) ?_
        intro K hK
        refine step_append_cells rfl (.tmp 73) (.tmp 78) (by rfl) w4.heap.size _ ([] ++ lots.flatten) (by rfl) HO5.out _ lk (by rfl) (HRD.out w5 HB5.out) (by have := HOK.out.flat; have := H20.out.len; simp only [List.nil_append]; omega) HB45.out.size ?_
        intro v6 w6 hown6 hb6
        have HB46 := Lib.hid (HB45.out.trans hb6)
        have hT6 : w6.cell? ⟨b, off + k * 4 + 1, none⟩ = some (.slice cx ln cc) := (hb6.cell (p := ⟨b, _, none⟩) (by have := HBL.out; have := HB4.out.size; show b < _; omega)).trans hT
        have HO6 := Lib.hid (show OwnC w6 w4.heap.size v6 (lots.flatten ++ lk) by rw [List.nil_append] at hown6; exact hown6)
        refine hK.out _ _ hT6 (fun _ _ => hS) ?_
        clear hK K hT hown6 hb6
        have hT := hT6
        clear hT6
        try simp only [Act.put, List.setIfInBounds_toArray, List.set_cons_zero, List.set_cons_succ]
        refine two_takeT 8 (some 13) (v := ?_) rfl rfl (by kernel_rfl) (by kernel_rfl) (by kernel_rfl) (by decide) (fun _ _ _ h => h) (Or.inl ⟨by rfl, ?hy8⟩) hT hS ?_
        case hy8 => (intro w' hT'; (try unfold T8 at hT'); (try unfold T9 at hT'); (try unfold S8 at hT'); go_simp; (try with_reducible rfl))
        try simp only [Act.put, List.setIfInBounds_toArray, List.set_cons_zero, List.set_cons_succ]
        refine two_done (by kernel_rfl) ?_ _
        clear hT hS
        have HJ6 := Lib.hid ((HJ3.out.below HB34.out).add HB46.out)
        have HS6 := Lib.hid (((HS3.out.below HB34.out).below HB46.out).mono (Y := Also Y2 w4 w6) (fun k e => .inl e))
        have HW6 := Lib.hid (SureC.new (HJ3.out.below HB34.out) HO6.out)
        have hup := HJ6.out.live.up
        have HUP := Lib.hid hup
        clear hup
        go_wp2_with fail
        cases hla with
        | no _ hr hr2 =>
          have t3 : (r == 0) = false := beq_eq_false_iff_ne.2 hr
          rw [HD.out.1] at HUP
          clear hr hr2
          refine HUP.out.mono ?_
          rintro e w7 ⟨rfl, rfl⟩
          go_wp2_with fail
          go_roundw
          case rel => exact ⟨k+1, by go_num, by omega, lots, _, _, _, _, rfl, HJ6.out, HS6.out, HD.out.1, HD.out.2.1, HD.out.2.2.1, HOK.out.next, HD.out.2.2.2.1, HD.out.2.2.2.2⟩
          case measure => simp [intOf]; omega
        | yes _ lots2 hoff2 hst2 hroom2 hfail2 hfo2 hf2 hok2 hfl2 =>
          rw [hoff2] at HUP
          have HI3 := Lib.hid (And.intro hoff2 (And.intro (hst2.trans HD.out.2.1) (And.intro hf2 (And.intro hok2 (And.intro hfo2 (And.intro (hroom2.trans HD.out.2.2.2.2) hfl2))))))
          clear hoff2 hst2 hroom2 hfail2 hfo2 hf2 hok2 hfl2
          refine HUP.out.mono ?_
          rintro e w7 ⟨rfl, rfl⟩
          go_wp2_with fail
          go_roundw
          case rel => exact ⟨k+1, by go_num, by omega, lots2, _, _, _, _, rfl, HJ6.out, (by rw [HI3.out.2.2.2.2.2.2]; exact HW6.out), HI3.out.1, HI3.out.2.1, HI3.out.2.2.1, HI3.out.2.2.2.1, HI3.out.2.2.2.2.1, HI3.out.2.2.2.2.2.1⟩
          case measure => simp [intOf]; omega
        | crash _ t hne hoff2 hst2 hroom2 hfail2 hlok hok1 hf2 =>
          rw [hoff2] at HUP
          obtain ⟨d3, e1, a1, a2, a3, a4, a5⟩ := start_one hoff2
          have hfl3 := a2.trans hf2
          have E1 := Lib.hid e1
          have HI3 := Lib.hid (And.intro a1 (And.intro (a3.trans hfail2) (And.intro (a4.trans (hroom2.trans HD.out.2.2.2.2)) hfl3)))
          have HLK := Lib.hid hlok
          have HK1 := Lib.hid hok1
          clear hoff2 hst2 hroom2 hfail2 hf2 e1 a1 a2 a3 a4 a5 hfl3 hlok hok1 hne
          refine HUP.out.mono ?_
          rintro e w7 ⟨rfl, rfl⟩
          go_wp2_with fail
          refine (HJ6.out.live.startK E1.out).mono ?_
          rintro e w8 ⟨rfl, hl8, hk8⟩
          have HL8 := Lib.hid hl8
          have HS8 := Lib.hid (HS6.out.keeps hk8)
          have HW8 := Lib.hid (HW6.out.keeps hk8)
          clear hl8 hk8
          go_wp2_with fail
          obtain ⟨d4, lots4, hlots4, hok4, hcall, hoff4, hf4, hfo4, hroom4, hst4⟩ := jopen_torn (k := k) (t := t) HL8.out HI3.out.1 HN.out HOK.out (by omega) HLK.out HK1.out HI3.out.2.1 HI3.out.2.2.1 HI3.out.2.2.2
          have HCA := Lib.hid hcall
          have HI4 := Lib.hid (And.intro hoff4 (And.intro hst4 (And.intro hf4 (And.intro hok4 (And.intro hfo4 hroom4)))))
          clear hcall hoff4 hf4 hok4 hfo4 hroom4 hst4
          refine HCA.out.mono ?_
          rintro e w9 ⟨o, u, Y4, rfl, _, hj9, hu9, hux9, hk9, _⟩
          obtain ⟨ux2, uc2, hus2⟩ := hu9.rd.form
          subst hus2
          have HJ9 := Lib.hid hj9
          have HU9 := Lib.hid (show SureC w Y4 w9 o (.slice ux2 lots4.flatten.length uc2) lots4.flatten from ⟨hu9.base HL8.out.size, hux9⟩)
          have HS9 := Lib.hid (HS8.out.keeps hk9).own.rd
          have HW9 := Lib.hid (HW8.out.keeps hk9).own.rd
          have hl4 := HI4.out.2.2.2.1.flat
          clear hj9 hu9 hux9 hk9
          by_cases hsame : lots4.flatten = lots.flatten
          · have HSC := Lib.hid (sameCells_any _ _ _ _ w9 HU9.out.own.rd HS9.out (by omega) (by have := HOK.out.flat; omega))
            rw [sameC_true hsame] at HSC
            obtain ⟨un4, hun4⟩ : ∃ un4, un4 = lots4.flatten.length := ⟨_, rfl⟩
            have HUN4 := Lib.hid hun4
            rw [← hun4] at HSC HU9 ⊢
            clear hsame hlots4 hl4 hun4
            go_wp2_with fail
            refine HSC.out.mono ?_
            rintro e w10 ⟨rfl, hb10⟩
            have HB10 := Lib.hid hb10
            clear hb10
            go_wp2_with fail
            go_roundw
            case rel => exact ⟨k+1, by go_num, by omega, lots4, _, Y4, o, _, rfl, HJ9.out.below HB10.out, HU9.out.below HB10.out, HI4.out.1, HI4.out.2.1, HI4.out.2.2.1, HI4.out.2.2.2.1, HI4.out.2.2.2.2.1, HI4.out.2.2.2.2.2⟩
            case measure => simp [intOf]; omega
          · have hwill : lots4.flatten = lots.flatten ++ lk := by
              rcases hlots4 with e | e
              · exact absurd (by rw [e]) hsame
              · rw [e, List.flatten_append]; simp
            have HSC := Lib.hid (sameCells_any _ _ _ _ w9 HU9.out.own.rd HS9.out (by omega) (by have := HOK.out.flat; omega))
            rw [sameC_false hsame] at HSC
            have HSD := Lib.hid (fun (W : World) (hW : Below w9.heap.size w9 W) => sameCells_any _ _ _ _ W (HU9.out.own.rd.below hW) (HW9.out.below hW) (by omega) (by have := HOK.out.flat; have := H20.out.len; rw [List.length_append]; omega))
            rw [sameC_true hwill] at HSD
            obtain ⟨un4, hun4⟩ : ∃ un4, un4 = lots4.flatten.length := ⟨_, rfl⟩
            have HUN4 := Lib.hid hun4
            rw [← hun4] at HSC HU9 HSD ⊢
            clear hsame hlots4 hl4 hun4 hwill
            go_wp2_with fail
            refine HSC.out.mono ?_
            rintro e w10 ⟨rfl, hb10⟩
            have HB10 := Lib.hid hb10
            clear hb10
            go_wp2_with fail
            refine (HSD.out w10 HB10.out).mono ?_
            rintro e w11 ⟨rfl, hb11⟩
            have HB11 := Lib.hid (HB10.out.trans (hb11.mono HB10.out.size))
            clear hb11
            go_wp2_with fail
            go_roundw
            case rel => exact ⟨k+1, by go_num, by omega, lots4, _, Y4, o, _, rfl, HJ9.out.below HB11.out, HU9.out.below HB11.out, HI4.out.1, HI4.out.2.1, HI4.out.2.2.1, HI4.out.2.2.2.1, HI4.out.2.2.2.2.1, HI4.out.2.2.2.2.2⟩
            case measure => simp [intOf]; omega
    · obtain rfl : k = n := by omega
      go_wp2_with fail
      refine (jlives_any wr).mono ?_
      rintro e wl ⟨rfl, hbl⟩
      have HBL := Lib.hid (Below.trans HBR.out (hbl.mono HBR.out.size))
      clear hbl
      go_wp2_with fail
      go_ret
      exact ⟨rfl, HBL.out⟩
end Go.Proofs.YtcijhhnbhnaiaaaGreatDoor

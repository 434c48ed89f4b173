/- 'JournalTorn', walked. -/
import Derived.Test.YtcijhhnbhnaiaaaGreatDoorJouTorn1
namespace Go.Proofs.YtcijhhnbhnaiaaaGreatDoor
set_option linter.unusedSimpArgs false
set_option linter.unusedVariables false
set_option maxRecDepth 100000
open Go.RowKit Go.Maps
open Dsk

set_option maxHeartbeats 16000000 in
theorem walkJournalTorn (x : Value × List JAct) (cut : Int) (w : World) (h1 : RdJ w w.heap.size x.1 x.2 ∧ x.2.length ≤ maxLen) (h2 : 0 ≤ cut ∧ cut ≤ 65535) :
    Calls Tryz.prog 6 #[x.1, .int .u16 cut] w fun e w' => e = .returned (.bool true) ∧ Below w.heap.size w w' := by
  obtain ⟨lv, l⟩ := x
  obtain ⟨hrd, hlm⟩ := h1
  simp only at hrd hlm ⊢
  have HBY := Lib.hid (beyondJ_any lv l _ 20 w hrd hlm)
  have HN := Lib.hid (numOk_small w 1 (by decide) (by decide))
  obtain ⟨lx, lc, rfl, hel⟩ := hrd
  have Hel := Lib.hid hel
  have HB0 := Lib.hid (Below.refl w.heap.size w)
  obtain ⟨c, rfl⟩ : ∃ c : Nat, cut = c := ⟨cut.toNat, by omega⟩
  have hc1 := h2.2
  obtain ⟨n, hn⟩ : ∃ n, n = l.length := ⟨_, rfl⟩
  rw [← hn] at HBY
  rw [← hn]
  have Hn := Lib.hid hn
  clear hel h2 hn
  go_enter Tryz.func6, Tryz.ntmps6
  go_wp2_with fail
  refine HBY.out.mono ?_
  rintro e w' ⟨⟨g, rfl, hg⟩, rfl⟩
  by_cases g1 : g = 1
  · subst g1
    clear hg
    go_wp2_with fail
    refine (jlives_any w).mono ?_
    rintro e wl ⟨rfl, hbl⟩
    have HBL := Lib.hid (Below.trans HB0.out (hbl.mono HB0.out.size))
    clear hbl
    go_wp2_with fail
    go_ret
    exact ⟨rfl, HBL.out⟩
  have t1 : (g == 1) = false := beq_eq_false_iff_ne.2 g1
  rw [t1]
  have HSM := Lib.hid (hg g1)
  clear hg g1 t1
  have hn20 : n ≤ 20 := by have := HSM.out.1; rw [← Hn.out] at this; omega
  go_wp2_with fail
  refine (live_new 1048576 w (by omega) (by omega)).mono ?_
  rintro e w1 ⟨v, rfl, hl1⟩
  obtain ⟨bd, rfl⟩ := hl1.ptr
  have HL1 := Lib.hid hl1
  clear hl1
  go_wp2_with fail
  refine (jopen_new (fr := 1) HL1.out rfl rfl (by decide)).mono ?_
  rintro e w2 ⟨j, Y, rfl, _, hj, _, _⟩
  have HI0 := Lib.hid (torn_init hj rfl rfl rfl rfl rfl)
  clear hj HL1
  go_wp2_with fail
  go_loopw [10, 11, 12] (fun v10 v11 v12 wr => ∃ k : Nat, v12 = .int .i64 k ∧ k ≤ n ∧ TornInv w wr (.pointer (some ⟨bd, 0, none⟩)) j k v10 v11) (fun _ _ v12 _ => n - (intOf v12).toNat)
  case atStart => exact ⟨0, rfl, Nat.zero_le _, HI0.out⟩
  case round =>
    obtain ⟨k, rfl, hk, lots, d, Y2, vals, hj, ht, hoff, hst, hf, hok, hfail, hroom, hlk⟩ := hrel
    have HJ := Lib.hid hj
    have HT := Lib.hid ht
    have HBR := Lib.hid hj.live.below
    have HD := Lib.hid (And.intro hoff (And.intro hst (And.intro hf (And.intro hfail hroom))))
    have HOK := Lib.hid hok
    obtain ⟨m, hm⟩ : ∃ m, m = lots.length := ⟨_, rfl⟩
    have hvl : vals.length = m + 1 := by rw [ht.len, prefs_length, hm]
    have hel : (endsL lots).length = m + 1 := by rw [endsL_length, hm]
    obtain ⟨eb, ec, hu1, heb1, heb2⟩ := ownsRow_form ht.own1 (by omega)
    obtain ⟨lb, lc2, hu2, hlb1, hlb2⟩ := ownsRow_form ht.own2 (by omega)
    subst hu1 hu2
    obtain ⟨en, hen⟩ : ∃ en, en = (endsL lots).length := ⟨_, rfl⟩
    obtain ⟨vn, hvn⟩ : ∃ vn, vn = vals.length := ⟨_, rfl⟩
    have HM := Lib.hid hm
    have HEN := Lib.hid hen
    have HVN := Lib.hid hvn
    rw [← hen] at hel
    rw [← hvn] at hvl
    rw [← hen, ← hvn] at HT ⊢
    have hm20 : m ≤ k := by omega
    have HEL := Lib.hid hel
    have HVL := Lib.hid hvl
    clear hel hvl hj ht hoff hst hf hok hfail hroom hlk hm hen hvn
    by_cases hlt : k < n
    · have hkl : k < l.length := by rw [← Hn.out]; exact hlt
      obtain ⟨ho, b, off, rfl, hb, hc⟩ := Hel.out k hkl
      have HO := Lib.hid ho
      have HBL := Lib.hid hb
      have HC := Lib.hid (fun (W : World) (hW : Below w.heap.size w W) => show W.cell? ⟨b, off + k * 4 + 1, none⟩ = some l[k].cv from by
        have h2 := (jact_load (b := b) (off := off + k * 4) (a := l[k]) (fun i hi => by rw [Nat.add_assoc]; exact hc i hi)).2.1
        exact (hW.cell (p := ⟨b, _, none⟩) hb).trans h2)
      obtain ⟨cx, cc, hcv⟩ := ho.rd.form
      rw [hcv] at HC
      obtain ⟨lk, hlk⟩ : ∃ lk, lk = l[k].cells := ⟨_, rfl⟩
      have HRD := Lib.hid (fun (W : World) (hW : Below w.heap.size w W) => show RdC W (.slice cx lk.length cc) lk from by
        have h2 := ho.rd.below hW
        rw [hcv] at h2
        rw [hlk]
        exact h2)
      have H20 := Lib.hid (show Lot20 lk from by rw [hlk]; exact Lot20.of (HSM.out.2 k hkl).1 ho.bnd)
      rw [← hlk] at HC
      obtain ⟨ln, hln⟩ : ∃ ln, ln = lk.length := ⟨_, rfl⟩
      rw [← hln] at HC HRD
      have HLN := Lib.hid hln
      have c1 := HC.out wr HBR.out
      have hln20 : ln ≤ 20 := by rw [hln]; exact H20.out.len
      clear hc ho hcv hlk hln
      go_wp2_with fail
      refine (japp_plain (k := k) HJ.out HD.out.1 HD.out.2.1 HN.out (HRD.out wr HBR.out) H20.out HD.out.2.2.1 HD.out.2.2.2.1 HOK.out).mono ?_
      rintro e w3 ⟨r, d2, rfl, hj3, hk3, hor⟩
      have HT3 := Lib.hid (HT.out.jk hk3)
      have HB3 := Lib.hid hj3.live.below
      have HJ3 := Lib.hid hj3
      have c3 := HC.out w3 hj3.live.below
      clear hk3 c1 hj3
      rcases hor with ⟨rfl, hne, hoff2, hst2, hf2, hok2, hfail2, hroom2⟩ | ⟨hr, rfl⟩
      · have HD2 := Lib.hid (And.intro hoff2 (And.intro (hst2.trans HD.out.2.1) (And.intro hf2 (And.intro hfail2 (hroom2.trans HD.out.2.2.2.2)))))
        have HOK2 := Lib.hid hok2
        have hl0 : 0 < ln := by rw [HLN.out]; exact List.length_pos_iff.2 hne
        clear hne hoff2 hst2 hf2 hok2 hfail2 hroom2
        have tl0 : decide ((0 : Int) < ln) = true := decide_eq_true (by omega)
        go_wp2_with fail
        refine (jsize_JF HJ3.out HD2.out.1 HD2.out.2.1 HN.out (by simp) HD2.out.2.2.1).mono ?_
        rintro e w4 ⟨rfl, hb4⟩
        obtain ⟨sz, hsz⟩ : ∃ sz, sz = (jText (lots ++ [lk])).length := ⟨_, rfl⟩
        rw [← hsz]
        obtain ⟨w5, hw5⟩ : ∃ w5, w5 = w4.alloc (.cells #[.int .i64 sz] 3 (0, 0)) := ⟨_, rfl⟩
        have hb45 : Below w4.heap.size w4 w5 := by rw [hw5]; exact (Below.refl _ _).alloc (Nat.le_refl _) _
        have hc5 : w5.cell? ⟨w4.heap.size, 0, none⟩ = some (.int .i64 sz) := by rw [hw5]; exact (Blk.alloc_new w4 _ _).cell 0
        have hb35 : Below w3.heap.size w3 w5 := hb4.trans (hb45.mono hb4.size)
        have HJ5 := Lib.hid (HJ3.out.below hb35)
        have HT5 := Lib.hid (HT3.out.below hb35)
        have HC5 := Lib.hid hc5
        have HW5 := Lib.hid hw5
        have HSZ := Lib.hid hsz
        clear hb4 hb45 hc5 hb35 hsz hw5
        go_wp2_with (at_builtin; rw [← HW5.out]; refine wpList_append_end rfl (.tmp 67) (.tmp 70) rfl HJ5.out HT5.out rfl w4.heap.size rfl _ HC5.out (by rw [← HEN.out]; have := HEL.out; omega) ?_; intro u6 w6 ht6 hj6; have HT6 := Lib.hid ht6; have HJ6 := Lib.hid hj6; clear ht6 hj6)
        -- region 16
        obtain ⟨x0, hx0⟩ : ∃ x0, x0 = w6.drew := ⟨_, rfl⟩
        have hbx0 : Below w6.heap.size w6 x0 := by rw [hx0]; exact (Below.refl _ _).drew
        have HJ0 := Lib.hid (HJ6.out.below hbx0)
        have HT0 := Lib.hid (HT6.out.below hbx0)
        have HBX0 := Lib.hid (HJ6.out.below hbx0).live.below
        have HX0 := Lib.hid hx0
        obtain ⟨lv2, hlast, hrl⟩ := HT0.out.getL (i := m) (by rw [← HM.out]; exact Nat.le_refl _)
        have HRL := Lib.hid (show RdC x0 lv2 lots.flatten by
          rw [List.take_of_length_le (by rw [HM.out]; exact Nat.le_refl _)] at hrl
          exact hrl)
        obtain ⟨qx, qc, hqf⟩ := HRL.out.form
        obtain ⟨qn, hqn⟩ : ∃ qn, qn = lots.flatten.length := ⟨_, rfl⟩
        rw [← hqn] at hqf
        subst hqf
        have hvm : ((vn : Int) - 1) = m := by have := HVL.out; omega
        have hmv : (m : Int) < vn := by have := HVL.out; omega
        have hm0 : (0 : Int) ≤ m := by omega
        have hwm : IntKind.i64.wrap (m : Int) = m := by rw [IntKind.wrap_i64]; omega
        clear hx0 hbx0 hrl hqn tl0 c3
        refine wp_region_two (T := fun W => W.cell? ⟨b, off + k * 4 + 1, none⟩ = some (.slice cx ln cc)) (S := fun W => W.cell? ⟨lb, m, none⟩ = some (.slice qx qn qc)) (n := 7) (by kernel_rfl) ?_
        rw [← HX0.out]
        have hS : x0.cell? ⟨lb, m, none⟩ = some (.slice qx qn qc) := hlast
        have hT : x0.cell? ⟨b, off + k * 4 + 1, none⟩ = some (.slice cx ln cc) := HC.out x0 HBX0.out
        refine two_takeT 0 (some 72) (v := ?_) rfl rfl (by kernel_rfl) (by kernel_rfl) (by kernel_rfl) (by decide) (fun _ _ _ h => h) (Or.inl ⟨by rfl, ?hy0⟩) hT hS ?_
        case hy0 => (intro w' hT'; (try unfold T8 at hT'); (try unfold T9 at hT'); (try unfold S8 at hT'); go_simp; (try with_reducible rfl))
        try simp only [Act.put, List.setIfInBounds_toArray, List.set_cons_zero, List.set_cons_succ]
        refine two_takeT 1 (some 73) (v := ?_) rfl rfl (by kernel_rfl) (by kernel_rfl) (by kernel_rfl) (by decide) (fun _ _ _ h => h) (Or.inl ⟨by rfl, ?hy1⟩) hT hS ?_
        case hy1 => (intro w' hT'; (try unfold T8 at hT'); (try unfold T9 at hT'); (try unfold S8 at hT'); go_simp; (try with_reducible rfl))
        try simp only [Act.put, List.setIfInBounds_toArray, List.set_cons_zero, List.set_cons_succ]
        refine two_takeT 2 (some 74) (v := ?_) rfl rfl (by kernel_rfl) (by kernel_rfl) (by kernel_rfl) (by decide) (fun _ _ _ h => h) (Or.inl ⟨by rfl, ?hy2⟩) hT hS ?_
        case hy2 => (intro w' hT'; (try unfold T8 at hT'); (try unfold T9 at hT'); (try unfold S8 at hT'); go_simp; (try with_reducible rfl))
        try simp only [Act.put, List.setIfInBounds_toArray, List.set_cons_zero, List.set_cons_succ]
        refine two_takeT 3 (some 75) (v := ?_) rfl rfl (by kernel_rfl) (by kernel_rfl) (by kernel_rfl) (by decide) (fun _ _ _ h => h) (Or.inl ⟨by rfl, ?hy3⟩) hT hS ?_
        case hy3 => (intro w' hT'; (try unfold T8 at hT'); (try unfold T9 at hT'); (try unfold S8 at hT'); go_simp; (try with_reducible rfl))
        try simp only [Act.put, List.setIfInBounds_toArray, List.set_cons_zero, List.set_cons_succ]
        refine two_takeT 4 (some 76) (v := ?_) rfl rfl (by kernel_rfl) (by kernel_rfl) (by kernel_rfl) (by decide) (fun _ _ _ h => h) (Or.inl ⟨by rfl, ?hy4⟩) hT hS ?_
        case hy4 => (intro w' hT'; (try unfold T8 at hT'); (try unfold T9 at hT'); (try unfold S8 at hT'); go_simp; (try with_reducible rfl))
        try simp only [Act.put, List.setIfInBounds_toArray, List.set_cons_zero, List.set_cons_succ]
        refine two_takeT 5 (some 77) (v := ?_) rfl rfl (by kernel_rfl) (by kernel_rfl) (by kernel_rfl) (by decide) (fun _ _ _ h => h) (Or.inl ⟨by rfl, ?hy5⟩) hT hS ?_
        case hy5 => (intro w' hT'; (try unfold T8 at hT'); (try unfold T9 at hT'); (try unfold S8 at hT'); go_simp; (try with_reducible rfl))
        try simp only [Act.put, List.setIfInBounds_toArray, List.set_cons_zero, List.set_cons_succ]
        refine two_take 6 (some 78) (v := ?_) rfl rfl (by kernel_rfl) (by kernel_rfl) (by kernel_rfl) (by kernel_rfl) (by decide) (by kernel_rfl) (fun _ _ _ h => h) (Or.inl ⟨by rfl, ?hy6⟩) hT hS ?_
        case hy6 => (intro w' hS'; (try unfold S8 at hS'); (try unfold T8 at hS'); go_simp; (try with_reducible rfl))
        try simp only [Act.put, List.setIfInBounds_toArray, List.set_cons_zero, List.set_cons_succ]
        refine two_takeT 8 (some 80) (v := ?_) rfl rfl (by kernel_rfl) (by kernel_rfl) (by kernel_rfl) (by decide) (fun _ _ _ h => h) (Or.inl ⟨by rfl, ?hy8⟩) hT hS ?_
        case hy8 => (intro w' hT'; (try unfold T8 at hT'); (try unfold T9 at hT'); (try unfold S8 at hT'); go_simp; (try with_reducible rfl))
        try simp only [Act.put, List.setIfInBounds_toArray, List.set_cons_zero, List.set_cons_succ]
        refine two_takeT 9 (some 81) (v := ?_) rfl rfl (by kernel_rfl) (by kernel_rfl) (by kernel_rfl) (by decide) (fun _ _ _ h => h) (Or.inl ⟨by rfl, ?hy9⟩) hT hS ?_
        case hy9 => (intro w' hT'; (try unfold T8 at hT'); (try unfold T9 at hT'); (try unfold S8 at hT'); go_simp; (try with_reducible rfl))
        try simp only [Act.put, List.setIfInBounds_toArray, List.set_cons_zero, List.set_cons_succ]
        refine two_takeT 10 (some 82) (v := ?_) rfl rfl (by kernel_rfl) (by kernel_rfl) (by kernel_rfl) (by decide) (fun _ _ _ h => h) (Or.inl ⟨by rfl, ?hy10⟩) hT hS ?_
        case hy10 => (intro w' hT'; (try unfold T8 at hT'); (try unfold T9 at hT'); (try unfold S8 at hT'); go_simp; (try with_reducible rfl))
        try simp only [Act.put, List.setIfInBounds_toArray, List.set_cons_zero, List.set_cons_succ]
        refine two_takeT 11 (some 83) (v := ?_) rfl rfl (by kernel_rfl) (by kernel_rfl) (by kernel_rfl) (by decide) (fun _ _ _ h => h) (Or.inl ⟨by rfl, ?hy11⟩) hT hS ?_
        case hy11 => (intro w' hT'; (try unfold T8 at hT'); (try unfold T9 at hT'); (try unfold S8 at hT'); go_simp; (try with_reducible rfl))
        try simp only [Act.put, List.setIfInBounds_toArray, List.set_cons_zero, List.set_cons_succ]
        refine two_takeT 12 (some 84) (v := ?_) rfl rfl (by kernel_rfl) (by kernel_rfl) (by kernel_rfl) (by decide) (fun _ _ _ h => h) (Or.inl ⟨by rfl, ?hy12⟩) hT hS ?_
        case hy12 => (intro w' hT'; (try unfold T8 at hT'); (try unfold T9 at hT'); (try unfold S8 at hT'); go_simp; (try with_reducible rfl))
        try simp only [Act.put, List.setIfInBounds_toArray, List.set_cons_zero, List.set_cons_succ]
        refine two_one 7 rfl (by kernel_rfl) ?_
        intro K hK
        refine step_append_cells rfl (.const (.slice none 0 0)) (.tmp 78) (by rfl) x0.heap.size (.slice none 0 0) [] (by rfl) (OwnC.nil _ _) _ lots.flatten (by rfl) HRL.out (by have := HOK.out.flat; simp only [List.length_nil]; omega) (Nat.le_refl _) ?_
        intro v7 x1 hown7 hb7
        have HB01 := Lib.hid hb7
        have HBX1 := Lib.hid (HBX0.out.trans (hb7.mono HBX0.out.size))
        have hT1 : x1.cell? ⟨b, off + k * 4 + 1, none⟩ = some (.slice cx ln cc) := HC.out x1 HBX1.out
        have HO7 := Lib.hid hown7
        refine hK.out _ _ hT1 (fun _ e => absurd rfl e) ?_
        clear hK K hT hS hown7 hb7
        have hT := hT1
        clear hT1
        try simp only [Act.put, List.setIfInBounds_toArray, List.set_cons_zero, List.set_cons_succ]
        refine two_one 13 rfl (by kernel_rfl) ?_
        intro K hK
        refine step_append_cells rfl (.tmp 79) (.tmp 84) (by rfl) x0.heap.size _ ([] ++ lots.flatten) (by rfl) HO7.out _ lk (by rfl) (HRD.out x1 HBX1.out) (by have := HOK.out.flat; have := H20.out.len; simp only [List.nil_append]; omega) HB01.out.size ?_
        intro v8 x2 hown8 hb8
        have HB02 := Lib.hid (HB01.out.trans hb8)
        have HBX2 := Lib.hid (HBX0.out.trans (HB02.out.mono HBX0.out.size))
        have hT1 : x2.cell? ⟨b, off + k * 4 + 1, none⟩ = some (.slice cx ln cc) := HC.out x2 HBX2.out
        have HO8 := Lib.hid (show OwnC x2 x0.heap.size v8 (lots.flatten ++ lk) by rw [List.nil_append] at hown8; exact hown8)
        clear hown8
        obtain ⟨px, pc, hpf⟩ := HO8.out.rd.form
        obtain ⟨pn, hpn⟩ : ∃ pn, pn = (lots.flatten ++ lk).length := ⟨_, rfl⟩
        rw [← hpn] at hpf
        subst hpf
        refine hK.out _ _ hT1 (fun e _ => by exact absurd e (by decide)) ?_
        clear hK K hT hb8 hpn
        have hT := hT1
        clear hT1
        try simp only [Act.put, List.setIfInBounds_toArray, List.set_cons_zero, List.set_cons_succ]
        refine two_one 14 rfl (by kernel_rfl) ?_
        intro K hK
        go_simp
        obtain ⟨x3, hx3⟩ : ∃ x3, x3 = x2.alloc (.cells #[.slice px pn pc] 30 (0, 0)) := ⟨_, rfl⟩
        rw [← hx3]
        have hb23 : Below x2.heap.size x2 x3 := by rw [hx3]; exact (Below.refl _ _).alloc (Nat.le_refl _) _
        have HC3 := Lib.hid (show x3.cell? ⟨x2.heap.size, 0, none⟩ = some (.slice px pn pc) by rw [hx3]; exact (Blk.alloc_new x2 _ _).cell 0)
        have HB03 := Lib.hid (HB02.out.trans (hb23.mono HB02.out.size))
        have HBX3 := Lib.hid (HBX0.out.trans (HB03.out.mono HBX0.out.size))
        have HO9 := Lib.hid (HO8.out.kept hb23)
        have HJ9 := Lib.hid (HJ0.out.add HB03.out)
        have HT9 := Lib.hid ((HT0.out.below HB03.out).mono (Y := Also _ x0 x3) (fun k e => .inl e))
        have hT1 : x3.cell? ⟨b, off + k * 4 + 1, none⟩ = some (.slice cx ln cc) := HC.out x3 HBX3.out
        have HV8 := Lib.hid (show ∀ k, (Value.slice px pn pc).ownBlock = some k → x0.heap.size ≤ k ∧ k < x3.heap.size from HO9.out.lt)
        have HLTS := Lib.hid (And.intro (World.ownsRow.lt HT0.out.own1) (And.intro (World.ownsRow.lt HT0.out.own2) HJ0.out.blk.lt))
        refine hK.out _ _ hT1 (fun e _ => by exact absurd e (by decide)) ?_
        clear hK K hT hb23 hx3
        have hT := hT1
        clear hT1
        try simp only [Act.put, List.setIfInBounds_toArray, List.set_cons_zero, List.set_cons_succ]
        refine two_one 15 rfl (by kernel_rfl) ?_
        intro K hK
        refine step_append_lot rfl (.tmp 72) (.tmp 86) (by rfl) HJ9.out HT9.out (by rfl) x2.heap.size (by rfl) (.slice px pn pc) (lots.flatten ++ lk) HC3.out (by rw [← HVN.out]; have := HVL.out; omega) HO9.out.rd (fun q hq => by
          have h1 := HV8.out q hq
          obtain ⟨h2, h3, h4⟩ := HLTS.out
          exact ⟨.inr h1, by omega, h1.2, fun e => by have := (h2 q e).2; omega, fun e => by have := (h3 q e).2; omega⟩) ?_
        intro u9 x4 ht9 hj9
        have HT10 := Lib.hid ht9
        have HJ10 := Lib.hid hj9
        have hT1 : x4.cell? ⟨b, off + k * 4 + 1, none⟩ = some (.slice cx ln cc) := HC.out x4 hj9.live.below
        refine hK.out _ _ hT1 (fun e _ => by exact absurd e (by decide)) ?_
        clear hK K hT ht9 hj9
        have hT := hT1
        clear hT1
        try simp only [Act.put, List.setIfInBounds_toArray, List.set_cons_zero, List.set_cons_succ]
        refine two_one 16 rfl (by kernel_rfl) ?_
        intro K hK
        go_simp
        refine hK.out _ _ hT (fun e _ => by exact absurd e (by decide)) ?_
        clear hK K
        try simp only [Act.put, List.setIfInBounds_toArray, List.set_cons_zero, List.set_cons_succ]
        refine two_done (by kernel_rfl) ?_ _
        clear hT hlast
        go_wp2_with fail
        go_roundw
        case rel => exact ⟨k+1, by go_num, by omega, lots ++ [lk], d2, _, vals ++ [.slice px pn pc], HJ10.out, (by rw [endsL_snoc, prefs_snoc, ← HSZ.out]; exact HT10.out), HD2.out.1, HD2.out.2.1, HD2.out.2.2.1, HOK2.out, HD2.out.2.2.2.1, HD2.out.2.2.2.2, by rw [List.length_append, ← HM.out]; simp; omega⟩
        case measure => simp [intOf]; omega
      · have HOK2 := Lib.hid HOK.out.next
        rcases hr with hr | ⟨rfl, hlk0⟩
        · have t3 : (r == 0) = false := beq_eq_false_iff_ne.2 hr
          clear hr
          go_wp2_with fail
          go_roundw
          case rel => exact ⟨k+1, by go_num, by omega, lots, d2, Y2, vals, HJ3.out, HT3.out, HD.out.1, HD.out.2.1, HD.out.2.2.1, HOK2.out, HD.out.2.2.2.1, HD.out.2.2.2.2, by rw [← HM.out]; omega⟩
          case measure => simp [intOf]; omega
        · obtain rfl : ln = 0 := by rw [HLN.out, hlk0]; rfl
          clear hlk0
          go_wp2_with fail
          go_roundw
          case rel => exact ⟨k+1, by go_num, by omega, lots, d2, Y2, vals, HJ3.out, HT3.out, HD.out.1, HD.out.2.1, HD.out.2.2.1, HOK2.out, HD.out.2.2.2.1, HD.out.2.2.2.2, by rw [← HM.out]; omega⟩
          case measure => simp [intOf]; omega
    · obtain rfl : k = n := by omega
      have hkn : k ≤ 20 := by omega
      by_cases hm0 : m = 0
      · obtain ⟨xr, rr, hrr⟩ : ∃ (xr : Str) (rr : Int), d.read (jn 1) = (xr, rr) := ⟨_, _, rfl⟩
        have HRR := Lib.hid hrr
        have ten : ((en : Int) == 1) = true := by rw [beq_iff_eq]; have := HEL.out; omega
        clear hrr
        go_wp2_with fail
        refine (HJ.out.live.readP ⟨#[106, 49]⟩ ⟨xr.toArray⟩ (n := jn 1) (by rw [jn1]) (by rw [HRR.out]) (by decide)).mono ?_
        rintro e w3 ⟨rfl, hb3⟩
        have HB3 := Lib.hid (HBR.out.trans (hb3.mono HBR.out.size))
        clear hb3
        go_wp2_with fail
        refine (jlives_any w3).mono ?_
        rintro e wl ⟨rfl, hbl⟩
        have HBL := Lib.hid (Below.trans HB3.out (hbl.mono HB3.out.size))
        clear hbl
        go_wp2_with fail
        go_ret
        exact ⟨rfl, HBL.out⟩
      · have hne : lots ≠ [] := fun e => hm0 (by rw [HM.out, e]; rfl)
        have hF : d.files = [(jn 1, ⟨jText lots, (jText lots).length⟩)] := by
          rcases HD.out.2.2.1 with ⟨_, e⟩ | e
          · exact absurd e hne
          · exact e
        obtain ⟨T, hT0⟩ : ∃ T : ByteArray, T = ⟨(jText lots).toArray⟩ := ⟨_, rfl⟩
        obtain ⟨tl, htl⟩ : ∃ tl, tl = (jText lots).length := ⟨_, rfl⟩
        have hTz : T.size = tl := by rw [hT0, htl]; exact List.size_toArray
        have HTD := Lib.hid (show T.data.toList = jText lots by rw [hT0])
        have HTL := Lib.hid htl
        have htl2 : tl ≤ 4448 * 20 := by have := HOK.out.text; rw [htl]; omega
        have HRR := Lib.hid (show d.read (jn 1) = (T.data.toList, 0) by
          unfold Dk.read
          rw [HD.out.1, hF, get_one, HTD.out]
          rfl)
        have ten : ((en : Int) == 1) = false := by rw [beq_eq_false_iff_ne]; have := HEL.out; omega
        have hem : ((en : Int) - 1) = m := by have := HEL.out; omega
        have hme : (m : Int) < en := by have := HEL.out; omega
        have hm00 : (0 : Int) ≤ m := by omega
        have hwm : IntKind.i64.wrap (m : Int) = m := by rw [IntKind.wrap_i64]; omega
        obtain ⟨kk, hkk0⟩ : ∃ kk, kk = c % (tl + 1) := ⟨_, rfl⟩
        have hkk : (c : Int).tmod ((tl : Int) + 1) = (kk : Int) := by
          rw [Int.tmod_eq_emod_of_nonneg (by omega), hkk0, Int.natCast_emod]
          rfl
        have hkt : kk ≤ tl := by rw [hkk0]; have := Nat.mod_lt c (show 0 < tl + 1 by omega); omega
        clear hF hT0 htl hkk0 hne
        go_wp2_with fail
        refine (HJ.out.live.readP ⟨#[106, 49]⟩ T (n := jn 1) (by rw [jn1]) HRR.out (by decide)).mono ?_
        rintro e w3 ⟨rfl, hb3⟩
        have HB3 := Lib.hid (HBR.out.trans (hb3.mono HBR.out.size))
        have HT3 := Lib.hid (HT.out.below hb3)
        have hce : w3.cell? ⟨eb, m, none⟩ = some (.int .i64 tl) := by
          have h := HT3.out.getE (i := m) (by rw [← HM.out]; exact Nat.le_refl _)
          rw [List.take_of_length_le (by rw [HM.out]; exact Nat.le_refl _), ← HTL.out] at h
          exact h
        clear hb3
        go_wp2_with fail
        refine (live_new 1048576 w3 (by omega) (by omega)).mono ?_
        rintro e w4 ⟨vo, rfl, hl4⟩
        obtain ⟨od, rfl⟩ := hl4.ptr
        have HL4 := Lib.hid hl4
        have hkT : kk ≤ T.size := by rw [hTz]; exact hkt
        obtain ⟨T2, hT2⟩ : ∃ T2, T2 = T.extract 0 kk := ⟨_, rfl⟩
        have HT2D := Lib.hid (show T2.data.toList = (jText lots).take kk by rw [hT2, extract_take, HTD.out])
        have hT2z : T2.size ≤ maxLen := by rw [hT2]; simp [ByteArray.size_extract]; unfold maxLen; omega
        have HT2 := Lib.hid hT2
        have HT2Z := Lib.hid hT2z
        clear hl4 hT2 hT2z
        go_wp2_with fail
        rw [← HT2.out]
        have htk : ((jText lots).take kk).length ≤ 1048576 := by rw [List.length_take, ← HTL.out]; omega
        refine (HL4.out.appendK ⟨#[106, 49]⟩ T2 (n := jn 1) (t := (jText lots).take kk) (by rw [jn1]) HT2D.out (new_one (by decide) _ htk) (by decide) HT2Z.out).mono ?_
        rintro e w5 ⟨rfl, hl5, _⟩
        have HL5 := Lib.hid hl5
        have HCE := Lib.hid (fun (W : World) (hW : Below w3.heap.size w3 W) (q : Nat) (hq : q ≤ m) => show W.cell? ⟨eb, q, none⟩ = some (.int .i64 ((jText (lots.take q)).length : Nat)) from
          (hW.cell (p := ⟨eb, q, none⟩) (World.ownsRow.lt HT3.out.own1 eb rfl).2).trans (HT3.out.getE (i := q) (by rw [← HM.out]; exact hq)))
        clear hl5 hce htk
        go_wp2_with fail
        go_loop [17, 18] (fun v17 v18 => ∃ a i : Nat, v17 = .int .i64 a ∧ v18 = .int .i64 i ∧ i ≤ en ∧ a ≤ m ∧ (jText (lots.take a)).length ≤ kk ∧ ∀ q, a < q → q < i → ¬ (jText (lots.take q)).length ≤ kk) (fun v17 v18 => en - (intOf v18).toNat)
        case atStart => exact ⟨0, 0, rfl, rfl, Nat.zero_le _, Nat.zero_le _, by simp [jText], fun q _ h => absurd h (by omega)⟩
        case round =>
          obtain ⟨a, i, rfl, rfl, hi, ham, hak, haq⟩ := hrel
          have HAQ := Lib.hid haq
          have HAK := Lib.hid hak
          clear haq hak
          by_cases hie : i < en
          · have him : i ≤ m := by omega
            have hci := HCE.out w5 HL5.out.below i him
            obtain ⟨ei, hei⟩ : ∃ ei, ei = (jText (lots.take i)).length := ⟨_, rfl⟩
            rw [← hei] at hci
            have HEI := Lib.hid hei
            clear hei
            by_cases hle : ei ≤ kk
            · have hle2 : (ei : Int) ≤ kk := by omega
              go_wp2_with fail
              go_round
              case rel => exact ⟨i, i + 1, rfl, by go_num, by omega, him, by rw [← HEI.out]; exact hle, fun q h1 h2 => absurd h1 (by omega)⟩
              case measure => simp [intOf]; omega
            · have hle2 : ¬ (ei : Int) ≤ kk := by omega
              go_wp2_with fail
              go_round
              case rel => exact ⟨a, i + 1, rfl, by go_num, by omega, ham, HAK.out, fun q h1 h2 => (by
                by_cases e : q = i
                · rw [e, ← HEI.out]; exact hle
                · exact HAQ.out q h1 (by omega))⟩
              case measure => simp [intOf]; omega
          · obtain rfl : i = en := by omega
            obtain ⟨tail, ht1, ht2, ht3⟩ := cut_at (lots := lots) (at_ := a) (k := kk) HOK.out.ok (by rw [← HM.out]; exact ham) HAK.out (fun h => by
              have h1 := HEL.out
              have h3 : a < m := by rw [HM.out]; exact h
              have h2 := HAQ.out (a + 1) (by omega) (by omega)
              omega) (by rw [← HTL.out]; exact hkt)
            obtain ⟨ax, hca, hra⟩ := HT3.out.getL (i := a) (by rw [← HM.out]; exact ham)
            obtain ⟨pf, hpf⟩ : ∃ pf, pf = (lots.take a).flatten := ⟨_, rfl⟩
            rw [← hpf] at hra
            have HPL := Lib.hid (show pf.length ≤ 400 by rw [hpf]; have h1 := flat_take lots a; have h2 := HOK.out.flat; omega)
            obtain ⟨ab, ac, haf⟩ := hra.form
            obtain ⟨an, han⟩ : ∃ an, an = pf.length := ⟨_, rfl⟩
            rw [← han] at haf
            subst haf
            have HCL := Lib.hid (fun (W : World) (hW : Below w3.heap.size w3 W) => And.intro ((hW.cell (p := ⟨lb, a, none⟩) (World.ownsRow.lt HT3.out.own2 lb rfl).2).trans hca) (hra.below hW))
            have HCE2 := Lib.hid (fun (W : World) (hW : Below w3.heap.size w3 W) => HCE.out W hW a ham)
            obtain ⟨lta, hlta⟩ : ∃ lta, lta = lots.take a := ⟨_, rfl⟩
            have HN3 := Lib.hid (numOk_small w3 1 (by decide) (by decide))
            have HLO := Lib.hid (show ∀ x ∈ lta, LotOk x by rw [hlta]; exact fun x hx => HOK.out.ok x (List.mem_of_mem_take hx))
            have HEA := Lib.hid (show (jText lta).length ≤ 88960 by rw [hlta]; have := HAK.out; omega)
            rw [← hlta] at HCE2 ht1 hpf
            obtain ⟨d6, hcall, o1, o2, o3, o4, o5⟩ := jopen_cut (lots := lta) (n := 1) (fr := 1) (tail := tail) (s := 0) HL5.out rfl (by rw [ht1]) HN3.out (by decide) (by decide) HLO.out ht2 (fun _ => ⟨rfl, by have := HEA.out; show _ ≤ 1048576; omega⟩)
            rw [← hpf] at hcall
            have HCA := Lib.hid hcall
            have HO6 := Lib.hid (And.intro o1 (And.intro o2 (And.intro o3 (And.intro o4 o5))))
            have HPF := Lib.hid hpf
            have hma : (a : Int) ≤ m := by omega
            clear ht1 ht2 ht3 hca hra hpf han hlta hcall o1 o2 o3 o4 o5
            go_wp2_with fail
            refine HCA.out.mono ?_
            rintro e w6 ⟨o, u, Y6, rfl, _, hj6, hu6, _, _, _⟩
            obtain ⟨ux, uc, hus⟩ := hu6.rd.form
            obtain ⟨un, hun⟩ : ∃ un, un = pf.length := ⟨_, rfl⟩
            rw [← hun] at hus
            subst hus
            obtain ⟨y0, hy0⟩ : ∃ y0, y0 = w6.drew := ⟨_, rfl⟩
            have hby : Below w6.heap.size w6 y0 := by rw [hy0]; exact (Below.refl _ _).drew
            have HMy0 := Lib.hid (hj6.below hby)
            have HU0 := Lib.hid (hu6.rd.below hby)
            have HY0 := Lib.hid hy0
            obtain ⟨ea, hea⟩ : ∃ ea, ea = (jText lta).length := ⟨_, rfl⟩
            rw [← hea] at HCE2
            have HEAV := Lib.hid hea
            have T33 : ∀ W : World, Below w3.heap.size w3 W → W.cell? ⟨lb, a, none⟩ = some (.slice ab an ac) ∧ W.cell? ⟨eb, a, none⟩ = some (.int .i64 ea) := fun W hW => ⟨(HCL.out W hW).1, HCE2.out W hW⟩
            have HT33 := Lib.hid T33
            have hai : (a : Int) < i := by have := HEL.out; omega
            have hav : (a : Int) < vn := by have := HVL.out; omega
            have ha0 : (0 : Int) ≤ a := by omega
            have hwa : IntKind.i64.wrap (a : Int) = a := by rw [IntKind.wrap_i64]; omega
            clear T33 hea hj6 hu6 hun hy0 hby
            go_wp2_with fail
            refine wp_region_two (T := fun W => W.cell? ⟨lb, a, none⟩ = some (.slice ab an ac) ∧ W.cell? ⟨eb, a, none⟩ = some (.int .i64 ea)) (S := fun _ => True) (n := 99) (by kernel_rfl) ?_
            rw [← HY0.out]
            have hS : True := trivial
            have hT := HT33.out y0 HMy0.out.live.below
            refine two_takeT 0 (some 149) (v := ?_) rfl rfl (by kernel_rfl) (by kernel_rfl) (by kernel_rfl) (by decide) (fun _ _ _ h => h) (Or.inl ⟨by rfl, ?hy0⟩) hT hS ?_
            case hy0 => (intro w' hT'; (try unfold T8 at hT'); (try unfold T9 at hT'); (try unfold S8 at hT'); go_simp; (try with_reducible rfl))
            try simp only [Act.put, List.setIfInBounds_toArray, List.set_cons_zero, List.set_cons_succ]
            refine two_takeT 1 (some 150) (v := ?_) rfl rfl (by kernel_rfl) (by kernel_rfl) (by kernel_rfl) (by decide) (fun _ _ _ h => h) (Or.inl ⟨by rfl, ?hy1⟩) hT hS ?_
            case hy1 => (intro w' hT'; (try unfold T8 at hT'); (try unfold T9 at hT'); (try unfold S8 at hT'); go_simp; (try with_reducible rfl))
            try simp only [Act.put, List.setIfInBounds_toArray, List.set_cons_zero, List.set_cons_succ]
            refine two_takeT 2 (some 151) (v := ?_) rfl rfl (by kernel_rfl) (by kernel_rfl) (by kernel_rfl) (by decide) (fun _ _ _ h => h) (Or.inl ⟨by rfl, ?hy2⟩) hT hS ?_
            case hy2 => (intro w' hT'; (try unfold T8 at hT'); (try unfold T9 at hT'); (try unfold S8 at hT'); go_simp; (try with_reducible rfl))
            try simp only [Act.put, List.setIfInBounds_toArray, List.set_cons_zero, List.set_cons_succ]
            refine two_takeT 3 (some 152) (v := ?_) rfl rfl (by kernel_rfl) (by kernel_rfl) (by kernel_rfl) (by decide) (fun _ _ _ h => h) (Or.inl ⟨by rfl, ?hy3⟩) hT hS ?_
            case hy3 => (intro w' hT'; (try unfold T8 at hT'); (try unfold T9 at hT'); (try unfold S8 at hT'); go_simp; (try with_reducible rfl))
            try simp only [Act.put, List.setIfInBounds_toArray, List.set_cons_zero, List.set_cons_succ]
            refine two_takeT 4 (some 153) (v := ?_) rfl rfl (by kernel_rfl) (by kernel_rfl) (by kernel_rfl) (by decide) (fun _ _ _ h => h) (Or.inl ⟨by rfl, ?hy4⟩) hT hS ?_
            case hy4 => (intro w' hT'; (try unfold T8 at hT'); (try unfold T9 at hT'); (try unfold S8 at hT'); go_simp; (try with_reducible rfl))
            try simp only [Act.put, List.setIfInBounds_toArray, List.set_cons_zero, List.set_cons_succ]
            refine two_takeT 5 (some 154) (v := ?_) rfl rfl (by kernel_rfl) (by kernel_rfl) (by kernel_rfl) (by decide) (fun _ _ _ h => h) (Or.inl ⟨by rfl, ?hy5⟩) hT hS ?_
            case hy5 => (intro w' hT'; (try unfold T8 at hT'); (try unfold T9 at hT'); (try unfold S8 at hT'); go_simp; (try with_reducible rfl))
            try simp only [Act.put, List.setIfInBounds_toArray, List.set_cons_zero, List.set_cons_succ]
            refine two_takeT 6 (some 155) (v := ?_) rfl rfl (by kernel_rfl) (by kernel_rfl) (by kernel_rfl) (by decide) (fun _ _ _ h => h) (Or.inl ⟨by rfl, ?hy6⟩) hT hS ?_
            case hy6 => (intro w' hT'; (try unfold T8 at hT'); (try unfold T9 at hT'); (try unfold S8 at hT'); go_simp; (try with_reducible rfl))
            try simp only [Act.put, List.setIfInBounds_toArray, List.set_cons_zero, List.set_cons_succ]
            refine two_takeT 7 (some 156) (v := ?_) rfl rfl (by kernel_rfl) (by kernel_rfl) (by kernel_rfl) (by decide) (fun _ _ _ h => h) (Or.inl ⟨by rfl, ?hy7⟩) hT hS ?_
            case hy7 => (intro w' hT'; (try unfold T8 at hT'); (try unfold T9 at hT'); (try unfold S8 at hT'); go_simp; (try with_reducible rfl))
            try simp only [Act.put, List.setIfInBounds_toArray, List.set_cons_zero, List.set_cons_succ]
            refine two_one 8 rfl (by kernel_rfl) ?_
            intro K hK
            go_simp
            refine (sameCells_any _ _ pf pf y0 HU0.out (HCL.out y0 HMy0.out.live.below).2 (by have := HPL.out; omega) (by have := HPL.out; omega)).mono ?_
            rintro e y1 ⟨rfl, hb1⟩
            rw [sameC_true rfl]
            have HMy1 := Lib.hid (HMy0.out.below hb1)
            have hT1 := HT33.out y1 HMy1.out.live.below
            refine hK.out _ _ hT1 (fun _ _ => hS) ?_
            clear hK K hT hb1
            have hT := hT1
            clear hT1
            try simp only [Act.put, List.setIfInBounds_toArray, List.set_cons_zero, List.set_cons_succ]
            refine two_takeT 9 (some 158) (v := ?_) rfl rfl (by kernel_rfl) (by kernel_rfl) (by kernel_rfl) (by decide) (fun _ _ _ h => h) (Or.inl ⟨by rfl, ?hy9⟩) hT hS ?_
            case hy9 => (intro w' hT'; (try unfold T8 at hT'); (try unfold T9 at hT'); (try unfold S8 at hT'); go_simp; (try with_reducible rfl))
            try simp only [Act.put, List.setIfInBounds_toArray, List.set_cons_zero, List.set_cons_succ]
            refine two_takeT 10 (some 159) (v := ?_) rfl rfl (by kernel_rfl) (by kernel_rfl) (by kernel_rfl) (by decide) (fun _ _ _ h => h) (Or.inl ⟨by rfl, ?hy10⟩) hT hS ?_
            case hy10 => (intro w' hT'; (try unfold T8 at hT'); (try unfold T9 at hT'); (try unfold S8 at hT'); go_simp; (try with_reducible rfl))
            try simp only [Act.put, List.setIfInBounds_toArray, List.set_cons_zero, List.set_cons_succ]
            refine two_takeT 11 (some 160) (v := ?_) rfl rfl (by kernel_rfl) (by kernel_rfl) (by kernel_rfl) (by decide) (fun _ _ _ h => h) (Or.inl ⟨by rfl, ?hy11⟩) hT hS ?_
            case hy11 => (intro w' hT'; (try unfold T8 at hT'); (try unfold T9 at hT'); (try unfold S8 at hT'); go_simp; (try with_reducible rfl))
            try simp only [Act.put, List.setIfInBounds_toArray, List.set_cons_zero, List.set_cons_succ]
            refine two_takeT 12 (some 161) (v := ?_) rfl rfl (by kernel_rfl) (by kernel_rfl) (by kernel_rfl) (by decide) (fun _ _ _ h => h) (Or.inl ⟨by rfl, ?hy12⟩) hT hS ?_
            case hy12 => (intro w' hT'; (try unfold T8 at hT'); (try unfold T9 at hT'); (try unfold S8 at hT'); go_simp; (try with_reducible rfl))
            try simp only [Act.put, List.setIfInBounds_toArray, List.set_cons_zero, List.set_cons_succ]
            refine two_takeT 14 (some 163) (v := ?_) rfl rfl (by kernel_rfl) (by kernel_rfl) (by kernel_rfl) (by decide) (fun _ _ _ h => h) (Or.inl ⟨by rfl, ?hy14⟩) hT hS ?_
            case hy14 => (intro w' hT'; (try unfold T8 at hT'); (try unfold T9 at hT'); (try unfold S8 at hT'); go_simp; (try with_reducible rfl))
            try simp only [Act.put, List.setIfInBounds_toArray, List.set_cons_zero, List.set_cons_succ]
            refine two_takeT 15 (some 164) (v := ?_) rfl rfl (by kernel_rfl) (by kernel_rfl) (by kernel_rfl) (by decide) (fun _ _ _ h => h) (Or.inl ⟨by rfl, ?hy15⟩) hT hS ?_
            case hy15 => (intro w' hT'; (try unfold T8 at hT'); (try unfold T9 at hT'); (try unfold S8 at hT'); go_simp; (try with_reducible rfl))
            try simp only [Act.put, List.setIfInBounds_toArray, List.set_cons_zero, List.set_cons_succ]
            refine two_takeT 16 (some 165) (v := ?_) rfl rfl (by kernel_rfl) (by kernel_rfl) (by kernel_rfl) (by decide) (fun _ _ _ h => h) (Or.inl ⟨by rfl, ?hy16⟩) hT hS ?_
            case hy16 => (intro w' hT'; (try unfold T8 at hT'); (try unfold T9 at hT'); (try unfold S8 at hT'); go_simp; (try with_reducible rfl))
            try simp only [Act.put, List.setIfInBounds_toArray, List.set_cons_zero, List.set_cons_succ]
            refine two_takeT 17 (some 166) (v := ?_) rfl rfl (by kernel_rfl) (by kernel_rfl) (by kernel_rfl) (by decide) (fun _ _ _ h => h) (Or.inl ⟨by rfl, ?hy17⟩) hT hS ?_
            case hy17 => (intro w' hT'; (try unfold T8 at hT'); (try unfold T9 at hT'); (try unfold S8 at hT'); go_simp; (try with_reducible rfl))
            try simp only [Act.put, List.setIfInBounds_toArray, List.set_cons_zero, List.set_cons_succ]
            refine two_one 13 rfl (by kernel_rfl) ?_
            intro K hK
            go_simp
            refine (jsize_JFs (lots := lta) HMy1.out HO6.out.1 HO6.out.2.2.2.2 HN3.out HO6.out.2.1).mono ?_
            rintro e y2 ⟨rfl, hb2⟩
            rw [← HEAV.out]
            have HMy2 := Lib.hid (HMy1.out.below hb2)
            have hT1 := HT33.out y2 HMy2.out.live.below
            refine hK.out _ _ hT1 (fun _ _ => hS) ?_
            clear hK K hT hb2
            have hT := hT1
            clear hT1
            try simp only [Act.put, List.setIfInBounds_toArray, List.set_cons_zero, List.set_cons_succ]
            refine two_takeT 18 (some 167) (v := ?_) rfl rfl (by kernel_rfl) (by kernel_rfl) (by kernel_rfl) (by decide) (fun _ _ _ h => h) (Or.inl ⟨by rfl, ?hy18⟩) hT hS ?_
            case hy18 => (intro w' hT'; (try unfold T8 at hT'); (try unfold T9 at hT'); (try unfold S8 at hT'); go_simp; (try with_reducible rfl))
            try simp only [Act.put, List.setIfInBounds_toArray, List.set_cons_zero, List.set_cons_succ]
            refine two_takeT 19 (some 168) (v := ?_) rfl rfl (by kernel_rfl) (by kernel_rfl) (by kernel_rfl) (by decide) (fun _ _ _ h => h) (Or.inl ⟨by rfl, ?hy19⟩) hT hS ?_
            case hy19 => (intro w' hT'; (try unfold T8 at hT'); (try unfold T9 at hT'); (try unfold S8 at hT'); go_simp; (try with_reducible rfl))
            try simp only [Act.put, List.setIfInBounds_toArray, List.set_cons_zero, List.set_cons_succ]
            refine two_takeT 20 (some 169) (v := ?_) rfl rfl (by kernel_rfl) (by kernel_rfl) (by kernel_rfl) (by decide) (fun _ _ _ h => h) (Or.inl ⟨by rfl, ?hy20⟩) hT hS ?_
            case hy20 => (intro w' hT'; (try unfold T8 at hT'); (try unfold T9 at hT'); (try unfold S8 at hT'); go_simp; (try with_reducible rfl))
            try simp only [Act.put, List.setIfInBounds_toArray, List.set_cons_zero, List.set_cons_succ]
            refine two_takeT 21 (some 170) (v := ?_) rfl rfl (by kernel_rfl) (by kernel_rfl) (by kernel_rfl) (by decide) (fun _ _ _ h => h) (Or.inl ⟨by rfl, ?hy21⟩) hT hS ?_
            case hy21 => (intro w' hT'; (try unfold T8 at hT'); (try unfold T9 at hT'); (try unfold S8 at hT'); go_simp; (try with_reducible rfl))
            try simp only [Act.put, List.setIfInBounds_toArray, List.set_cons_zero, List.set_cons_succ]
            refine two_one 22 rfl (by kernel_rfl) ?_
            intro K hK
            go_simp
            refine (two_any y2).mono ?_
            rintro e y3 ⟨rfl, hr3, hb3⟩
            have HMy3 := Lib.hid (HMy2.out.below hb3)
            have HR3 := Lib.hid hr3
            have hT1 := HT33.out y3 HMy3.out.live.below
            refine hK.out _ _ hT1 (fun _ _ => hS) ?_
            clear hK K hT hb3 hr3
            have hT := hT1
            clear hT1
            try simp only [Act.put, List.setIfInBounds_toArray, List.set_cons_zero, List.set_cons_succ]
            refine two_one 23 rfl (by kernel_rfl) ?_
            intro K hK
            go_simp
            obtain ⟨d7, p1, p2, p3, p4, p5, p6⟩ := jApp_two (n := 1) (l := [jc1, jc2]) (by decide) HO6.out.1 HO6.out.2.1 (two_lays (by rw [HO6.out.2.2.2.1]; have := HEA.out; show _ ≤ 1048576; omega)) HO6.out.2.2.1
            have hap := japp_any (n := 1) HMy3.out HO6.out.1 HO6.out.2.2.2.2 HN3.out HR3.out (by decide) (fun c hc => (jmay c hc).2)
            rw [p1] at hap
            refine hap.mono ?_
            clear hap p1
            rintro e y4 ⟨rfl, hj4, _⟩
            have HMy4 := Lib.hid hj4
            have HP7 := Lib.hid (And.intro p2 (And.intro p3 (p6.trans HO6.out.2.2.2.2)))
            have hT1 := HT33.out y4 HMy4.out.live.below
            refine hK.out _ _ hT1 (fun _ _ => hS) ?_
            clear hK K hT hj4 p2 p3 p4 p5 p6
            have hT := hT1
            clear hT1
            try simp only [Act.put, List.setIfInBounds_toArray, List.set_cons_zero, List.set_cons_succ]
            refine two_takeT 24 (some 173) (v := ?_) rfl rfl (by kernel_rfl) (by kernel_rfl) (by kernel_rfl) (by decide) (fun _ _ _ h => h) (Or.inl ⟨by rfl, ?hy24⟩) hT hS ?_
            case hy24 => (intro w' hT'; (try unfold T8 at hT'); (try unfold T9 at hT'); (try unfold S8 at hT'); go_simp; (try with_reducible rfl))
            try simp only [Act.put, List.setIfInBounds_toArray, List.set_cons_zero, List.set_cons_succ]
            refine two_takeT 25 (some 174) (v := ?_) rfl rfl (by kernel_rfl) (by kernel_rfl) (by kernel_rfl) (by decide) (fun _ _ _ h => h) (Or.inl ⟨by rfl, ?hy25⟩) hT hS ?_
            case hy25 => (intro w' hT'; (try unfold T8 at hT'); (try unfold T9 at hT'); (try unfold S8 at hT'); go_simp; (try with_reducible rfl))
            try simp only [Act.put, List.setIfInBounds_toArray, List.set_cons_zero, List.set_cons_succ]
            refine two_done (by kernel_rfl) ?_ _
            clear hT hS
            go_wp2_with fail
            obtain ⟨d8, hcall2, _⟩ := jopen_JF (n := 1) (fr := 1) (lots := lta ++ [[jc1, jc2]]) (tail := []) (s := (jText (lta ++ [[jc1, jc2]])).length) HMy4.out.live HP7.out.1 HP7.out.2.1.open HN3.out (by decide) (by decide) (fun x hx => by
              rcases List.mem_append.1 hx with hx | hx
              · exact HLO.out x hx
              · rw [List.mem_singleton.1 hx]; exact two_ok) nil_none (fun e => absurd rfl e) (fun _ => rfl)
            have HCA2 := Lib.hid hcall2
            clear hcall2
            refine HCA2.out.mono ?_
            rintro e y5 ⟨o2, u2, Y7, rfl, _, hj5, hu5, _, _, _⟩
            have hf2 : (lta ++ [[jc1, jc2]]).flatten = pf ++ [jc1, jc2] := by rw [List.flatten_append, ← HPF.out]; simp
            rw [hf2] at hu5
            obtain ⟨ux2, uc2, hus2⟩ := hu5.rd.form
            obtain ⟨un2, hun2⟩ : ∃ un2, un2 = (pf ++ [jc1, jc2]).length := ⟨_, rfl⟩
            rw [← hun2] at hus2
            subst hus2
            have HJ5 := Lib.hid hj5
            have HU5 := Lib.hid hu5.rd
            have hct := (HCL.out y5 hj5.live.below).1
            clear hf2 hun2 hj5 hu5
            have HRA5 := Lib.hid (HCL.out y5 HJ5.out.live.below).2
            go_wp2_with (at_builtin; refine wpList_append_cellsW (by rfl) (.const (.slice none 0 0)) (.tmp 188) rfl y5.heap.size (.slice none 0 0) [] (by rfl) (OwnC.nil _ _) _ pf (by rfl) HRA5.out (by have := HPL.out; simp only [List.length_nil]; omega) (Nat.le_refl _) ?_; intro v6 y6 hown6 hb6; have HO66 := Lib.hid hown6; have HB6 := Lib.hid hb6; clear hown6 hb6)
            refine (two_any y6).mono ?_
            rintro e y7 ⟨rfl, hr7, hb7⟩
            have HO77 := Lib.hid (HO66.out.kept hb7)
            have HR7 := Lib.hid hr7
            have HB57 := Lib.hid (HB6.out.trans (hb7.mono HB6.out.size))
            clear hr7 hb7
            go_wp2_with (at_builtin; refine wpList_append_cellsW (by rfl) (.tmp 189) (.tmp 190) rfl y5.heap.size _ ([] ++ pf) (by rfl) HO77.out _ [jc1, jc2] (by rfl) HR7.out (by have := HPL.out; simp; omega) HB57.out.size ?_; intro v8 y8 hown8 hb8; have HO88 := Lib.hid hown8; have HB58 := Lib.hid (HB57.out.trans hb8); clear hown8 hb8)
            have HR8 := Lib.hid (show RdC y8 v8 (pf ++ [jc1, jc2]) by have h := HO88.out.rd; rw [List.nil_append] at h; exact h)
            have hl2 : (pf ++ [jc1, jc2]).length ≤ 1000000000 := by have := HPL.out; rw [List.length_append]; simp; omega
            refine (sameCells_any _ _ (pf ++ [jc1, jc2]) (pf ++ [jc1, jc2]) y8 (HU5.out.below HB58.out) HR8.out hl2 hl2).mono ?_
            rintro e y9 ⟨rfl, hb9⟩
            rw [sameC_true rfl]
            have HB9 := Lib.hid (HB3.out.trans ((HJ5.out.live.below.trans ((HB58.out.trans (hb9.mono HB58.out.size)).mono HJ5.out.live.below.size)).mono HB3.out.size))
            clear hb9 hl2
            go_wp2_with fail
            refine (jlives_any y9).mono ?_
            rintro e wl ⟨rfl, hbl⟩
            have HBL := Lib.hid (Below.trans HB9.out (hbl.mono HB9.out.size))
            clear hbl
            go_wp2_with fail
            go_ret
            exact ⟨rfl, HBL.out⟩
end Go.Proofs.YtcijhhnbhnaiaaaGreatDoor

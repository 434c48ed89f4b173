/- 'HostlogTwice', walked. -/
import Derived.Test.YtiepipcankhdnaaGreatDoorHlTw
namespace Go.Proofs.YtiepipcankhdnaaGreatDoor
set_option linter.unusedSimpArgs false
set_option linter.unusedVariables false
set_option maxRecDepth 100000
open Go.RowKit Go.Maps
open Dsk

section
variable {w wr w' : World} {bd j k n m s : Nat} {d d' : Dk} {h h' : Hl} {u : Value} {rs : List Sp.Span} {x : Sp.Span}
theorem LogW.segs (h0 : LogW w wr bd j d h u rs) (r : Run d h s) (hn : nextOf h.l ≤ 999999999) :
    Calls Tryz.prog 24 #[.pointer (some ⟨j, 0, none⟩)] wr fun e w' => e = .returned (.int .i64 (h.l.length : Nat)) ∧ Below wr.heap.size wr w' := by
  obtain ⟨X, H, h1, h3, h4⟩ := h0
  have := hsegments_any h1 (r.bnd hn).many
  rw [if_pos r.runs] at this
  exact this
theorem LogW.names (h0 : LogW w wr bd j d h u rs) : Calls Tryz.prog 28 #[.pointer (some ⟨bd, 0, none⟩)] wr fun e w' => ∃ v, e = .returned v ∧ OwnS w' wr.heap.size v (strs (Dsk.names d.files)) ∧ Below wr.heap.size wr w' := by
  obtain ⟨X, H, h1, h3, h4⟩ := h0
  exact h1.live.names
theorem LogW.unsynced (h0 : LogW w wr bd j d h u rs) : Calls Tryz.prog 37 #[.pointer (some ⟨bd, 0, none⟩)] wr fun e w' => ∃ v, e = .returned v ∧ OwnI w' wr.heap.size v d.unsynced ∧ Below wr.heap.size wr w' := by
  obtain ⟨X, H, h1, h3, h4⟩ := h0
  exact h1.live.unsynced
theorem LogW.size (h0 : LogW w wr bd j d h u rs) : Calls Tryz.prog 38 #[.pointer (some ⟨bd, 0, none⟩)] wr fun e w' => e = .returned (.int .i64 (total d.files)) ∧ Below wr.heap.size wr w' := by
  obtain ⟨X, H, h1, h3, h4⟩ := h0
  exact h1.live.sizes
/-- Behind k acts. -/
def TwI (w wr : World) (bd j k : Nat) : Prop := ∃ d h, LogW w wr bd j d h (.slice none 0 0) [] ∧ TwP d h k
theorem TwI.live (h : TwI w wr bd j k) : Below w.heap.size w wr := by obtain ⟨_, _, h, _⟩ := h; exact h.live
theorem TwI.below (h : TwI w wr bd j k) (x : Below wr.heap.size wr w') : TwI w w' bd j k := by obtain ⟨d, hh, h1, h2⟩ := h; exact ⟨d, hh, h1.below x, h2⟩
theorem TwI.app (h : TwI w wr bd j k) (he : LEnv w) (hk : k < 150) (x : Sp.Span) (h1 : x.service.size ≤ maxLen) (h2 : x.host.size ≤ maxLen) (h3 : x.note.size ≤ maxLen) :
    Calls Tryz.prog 12 #[.pointer (some ⟨j, 0, none⟩), spV x] wr fun e w' => (∃ r, e = .returned (.int .i64 r)) ∧ TwI w w' bd j (k + 1) := by
  obtain ⟨d, hh, g1, g2⟩ := h
  refine (g1.app he (g2.hb (by omega)) x h1 h2 h3).mono ?_
  rintro e w' ⟨rfl, hl⟩
  exact ⟨⟨_, rfl⟩, _, _, hl, g2.app (by omega) x⟩
theorem TwI.sync (h : TwI w wr bd j k) (he : LEnv w) (hk : k < 150) :
    Calls Tryz.prog 14 #[.pointer (some ⟨j, 0, none⟩)] wr fun e w' => (∃ r, e = .returned (.int .i64 r)) ∧ TwI w w' bd j (k + 1) := by
  obtain ⟨d, hh, g1, g2⟩ := h
  refine (g1.sync he (g2.hb (by omega))).mono ?_
  rintro e w' ⟨rfl, hl⟩
  exact ⟨⟨_, rfl⟩, _, _, hl, g2.sync (by omega)⟩
theorem TwI.rot (h : TwI w wr bd j k) (he : LEnv w) (hk : k < 150) :
    Calls Tryz.prog 13 #[.pointer (some ⟨j, 0, none⟩)] wr fun e w' => (∃ r, e = .returned (.int .i64 r)) ∧ TwI w w' bd j (k + 1) := by
  obtain ⟨d, hh, g1, g2⟩ := h
  refine (g1.rot he (g2.hb (by omega))).mono ?_
  rintro e w' ⟨rfl, hl⟩
  exact ⟨⟨_, rfl⟩, _, _, hl, g2.rot (by omega)⟩
theorem TwI.ret (h : TwI w wr bd j k) (he : LEnv w) (hk : k < 150) (n : Int) :
    Calls Tryz.prog 23 #[.pointer (some ⟨j, 0, none⟩), .int .i64 n] wr fun e w' => (∃ r, e = .returned (.int .i64 r)) ∧ TwI w w' bd j (k + 1) := by
  obtain ⟨d, hh, g1, g2⟩ := h
  refine (g1.ret he (g2.hb (by omega)) n).mono ?_
  rintro e w' ⟨rfl, hl⟩
  exact ⟨⟨_, rfl⟩, _, _, hl, g2.ret (by omega) n⟩
theorem TwI.fail (h : TwI w wr bd j k) (hk : k < 150) (n : Int) (hn : n ≤ 9223372036854775807) (kv : Value) (keep : List Int) (hkr : KeepR wr (fun k => w.heap.size ≤ k) kv keep) (hkl : keep.length ≤ 1000000) :
    Calls Tryz.prog 29 #[.pointer (some ⟨bd, 0, none⟩), .int .i64 n, kv] wr fun e w' => (∃ r, e = .returned (.int .i64 r)) ∧ TwI w w' bd j (k + 1) := by
  obtain ⟨d, hh, g1, g2⟩ := h
  refine (g1.fail n hn kv keep hkr hkl).mono ?_
  rintro e w' ⟨rfl, hl⟩
  exact ⟨⟨_, rfl⟩, _, _, hl, g2.fail n keep (by omega)⟩
end
set_option maxHeartbeats 16000000 in
theorem hostlogTwice_any (v kv : Value) (l : List HAct) (keep : List Int) (w : World) (h1 : HActsIn w (v, l)) (h3 : KeepIn w (kv, keep)) (he : LEnv w) :
    Calls Tryz.prog 9 #[v, kv] w fun e w' => e = .returned (.bool true) ∧ Below w.heap.size w w' := by
  obtain ⟨hrd, hlm⟩ := h1
  obtain ⟨hkr, hkm⟩ := h3
  simp only at hrd hlm hkr hkm
  have HGR := Lib.hid (hgreat_any v l w.heap.size w hrd hlm)
  obtain ⟨x, c, rfl, hel⟩ := hrd
  obtain ⟨kx, kc, hkv⟩ := hkr.formH
  have HKR := Lib.hid hkr
  have HEL := Lib.hid hel
  have HE := Lib.hid he
  obtain ⟨n, hn⟩ : ∃ n, n = l.length := ⟨_, rfl⟩
  obtain ⟨kn, hkn⟩ : ∃ kn, kn = keep.length := ⟨_, rfl⟩
  rw [← hn] at hlm HGR ⊢
  rw [← hkn] at hkm hkv
  subst hkv
  unfold maxLen at hlm hkm
  have HN := Lib.hid hn
  have HKN := Lib.hid hkn
  clear hkr hel he hn hkn
  go_enter Tryz.func9, Tryz.ntmps9
  go_wp2_with fail
  refine HGR.out.mono ?_
  rintro e w' ⟨⟨b, rfl, hsm⟩, rfl⟩
  by_cases hb1 : b = 1
  · subst hb1
    go_wp2_with fail
    go_ret
    exact ⟨rfl, Below.refl _ _⟩
  have hbf : (b == 1) = false := beq_eq_false_iff_ne.2 hb1
  have HSM := Lib.hid (hsm hb1)
  clear hsm hb1
  by_cases hbig : 100 < kn
  · have hbig2 : (100 : Int) < kn := by omega
    go_wp2_with fail
    go_ret
    exact ⟨rfl, Below.refl _ _⟩
  have hbig2 : ¬ (100 : Int) < kn := by omega
  have hn150 : n ≤ 150 := by have := HSM.out.1; rw [HN.out]; exact this
  go_wp2_with fail
  refine (hopened_any 1048576 (by omega) (by omega) w).mono ?_
  rintro e w1 ⟨bd, j, X, H, rfl, hs⟩
  have HS1 := Lib.hid (LogW.begun hs)
  clear hs hbf HGR
  go_wp2_with fail
  go_loopw [7] (fun v7 wr => ∃ k : Nat, v7 = .int .i64 k ∧ k ≤ n ∧ TwI w wr bd j k) (fun v7 _ => n - (intOf v7).toNat)
  case atStart => exact ⟨0, rfl, Nat.zero_le _, _, _, HS1.out, .inl ⟨0, ⟨⟨rfl, rfl, rfl⟩, LSt.new (by omega) (by omega)⟩, Nat.zero_le _⟩, Ok.new (by omega) (by omega), Nat.zero_le _, Nat.zero_le _, rfl, Nat.zero_le _⟩
  case round =>
    obtain ⟨k, rfl, hk, hinv⟩ := hrel
    have HI := Lib.hid hinv
    clear hinv
    by_cases hlt : k < n
    · have hkl : k < l.length := by rw [← HN.out]; exact hlt
      have hlt2 : (k : Int) < n := by omega
      obtain ⟨ho, b, off, hxe, hb, hc⟩ := HEL.out k hkl
      have hsa := HSM.out.2 k hkl
      obtain ⟨a, ha⟩ : ∃ a, a = l[k] := ⟨_, rfl⟩
      rw [← ha] at ho hc hsa
      obtain ⟨kd, ⟨zt, zi, zp, zs, zh, za, zd, zn⟩, an, am, av, ak⟩ := a
      have hkd := ho.kind
      have han := ho.n
      have hspb := ho.s
      simp only at hkd han
      have HTC := Lib.hid (fun (W : World) (hW : Below w.heap.size w W) => hact_load (w := W) (b := b) (off := off + k * 12) (a := ⟨kd, ⟨zt, zi, zp, zs, zh, za, zd, zn⟩, an, am, av, ak⟩) (fun i hi => by
        rw [Nat.add_assoc, ← hc i hi]
        exact hW.cell (p := ⟨b, off + (k * 12 + i), none⟩) hb))
      simp only at HTC
      have HKV := Lib.hid (fun (W : World) (hW : Below w.heap.size w W) => show KeepR W (fun k => w.heap.size ≤ k) av ak from ho.kv.chg (T := fun _ => False) (Chg.of_below hW) (fun _ e => e.elim))
      have HKL := Lib.hid (show ak.length ≤ 100 from hsa.2.2.2)
      have HSB := Lib.hid hspb
      obtain ⟨avx, avc, hav⟩ := ho.kv.formH
      simp only at hav
      obtain ⟨akn, hakn⟩ : ∃ akn, akn = ak.length := ⟨_, rfl⟩
      rw [← hakn] at hav
      subst hav
      obtain ⟨c0, c1, c2, c3, c4, c5, c6, c7, c8, c9, _, c11⟩ := HTC.out wr HI.out.live
      subst hxe
      obtain ⟨km, hkm9⟩ : ∃ km : Int, km = (kd : Int).tmod 13 := ⟨_, rfl⟩
      have hkm0 : 0 ≤ km ∧ km < 13 := by rw [hkm9, Int.tmod_eq_emod_of_nonneg (by omega)]; omega
      have hkmw : IntKind.u8.wrap km = km := by
        have : IntKind.u8.wrap km = km % 256 := rfl
        rw [this]; omega
      clear ho hc ha hsa hspb hakn
      have hcs : km = 5 ∨ km = 6 ∨ km = 7 ∨ km = 8 ∨ km = 11 ∨ (km ≠ 5 ∧ km ≠ 6 ∧ km ≠ 7 ∧ km ≠ 8 ∧ km ≠ 11) := by omega
      have hkm10 := hkm9.symm
      clear hkm9
      rcases hcs with rfl | rfl | rfl | rfl | rfl | ⟨n5, n6, n7, n8, n11⟩
      · skip
        go_wp2_with fail
        refine (HI.out.sync HE.out (by omega)).mono ?_
        rintro e y1 ⟨⟨r, rfl⟩, hi1⟩
        have HI1 := Lib.hid hi1
        clear hi1 c0 c1 c2 c3 c4 c5 c6 c7 c8 c9 c11
        go_wp2_with fail
        go_roundw
        case rel => exact ⟨k + 1, by go_num, by omega, HI1.out⟩
        case measure => simp [intOf]; omega
      · skip
        go_wp2_with fail
        refine (HI.out.sync HE.out (by omega)).mono ?_
        rintro e y1 ⟨⟨r, rfl⟩, hi1⟩
        have HI1 := Lib.hid hi1
        clear hi1 c0 c1 c2 c3 c4 c5 c6 c7 c8 c9 c11
        go_wp2_with fail
        go_roundw
        case rel => exact ⟨k + 1, by go_num, by omega, HI1.out⟩
        case measure => simp [intOf]; omega
      · skip
        go_wp2_with fail
        refine (HI.out.rot HE.out (by omega)).mono ?_
        rintro e y1 ⟨⟨r, rfl⟩, hi1⟩
        have HI1 := Lib.hid hi1
        clear hi1 c0 c1 c2 c3 c4 c5 c6 c7 c8 c9 c11
        go_wp2_with fail
        go_roundw
        case rel => exact ⟨k + 1, by go_num, by omega, HI1.out⟩
        case measure => simp [intOf]; omega
      · skip
        go_wp2_with fail
        refine (HI.out.ret HE.out (by omega) an).mono ?_
        rintro e y1 ⟨⟨r, rfl⟩, hi1⟩
        have HI1 := Lib.hid hi1
        clear hi1 c0 c1 c2 c3 c4 c5 c6 c7 c8 c9 c11
        go_wp2_with fail
        go_roundw
        case rel => exact ⟨k + 1, by go_num, by omega, HI1.out⟩
        case measure => simp [intOf]; omega
      · have HFA := Lib.hid (fun (W : World) (hI : TwI w W bd j k) => hI.fail (by omega) an han.2 _ ak (HKV.out W hI.live) (by have := HKL.out; omega))
        have HIB := Lib.hid (fun (W : World) (hW : Below wr.heap.size wr W) => HI.out.below hW)
        clear c0 c1 c2 c3 c4 c5 c6 c7 c8 c9 c11
        obtain ⟨c0, _⟩ := HTC.out wr HI.out.live
        go_wp2_with fail
        refine wp_region_two (T := fun W => W.cell? ⟨b, off + k * 12 + 9, none⟩ = some (.int .i64 an) ∧ W.cell? ⟨b, off + k * 12 + 11, none⟩ = some (.slice avx akn avc)) (S := fun _ => True) (n := 99) (by kernel_rfl) ?_
        obtain ⟨y0, hy0⟩ : ∃ y0, y0 = wr.drew := ⟨_, rfl⟩
        rw [← hy0]
        have HI0 := Lib.hid (HIB.out y0 (by rw [hy0]; exact (Below.refl _ _).drew))
        have hS : True := trivial
        have hT : y0.cell? ⟨b, off + k * 12 + 9, none⟩ = some (.int .i64 an) ∧ y0.cell? ⟨b, off + k * 12 + 11, none⟩ = some (.slice avx akn avc) := by
          obtain ⟨_, _, _, _, _, _, _, _, _, r9, _, r11⟩ := HTC.out y0 HI0.out.live
          exact ⟨r9, r11⟩
        clear hy0 c0
        refine two_takeT 0 (some 71) (v := ?_) rfl rfl (by kernel_rfl) (by kernel_rfl) (by kernel_rfl) (by decide) (fun _ _ _ h => h) (Or.inl ⟨by rfl, ?hy0⟩) hT hS ?_
        case hy0 => (intro w' hT'; (try unfold T8 at hT'); (try unfold T9 at hT'); (try unfold S8 at hT'); go_simp; (try with_reducible rfl))
        try simp only [Act.put, List.setIfInBounds_toArray, List.set_cons_zero, List.set_cons_succ]
        refine two_takeT 1 (some 72) (v := ?_) rfl rfl (by kernel_rfl) (by kernel_rfl) (by kernel_rfl) (by decide) (fun _ _ _ h => h) (Or.inl ⟨by rfl, ?hy1⟩) hT hS ?_
        case hy1 => (intro w' hT'; (try unfold T8 at hT'); (try unfold T9 at hT'); (try unfold S8 at hT'); go_simp; (try with_reducible rfl))
        try simp only [Act.put, List.setIfInBounds_toArray, List.set_cons_zero, List.set_cons_succ]
        refine two_takeT 2 (some 73) (v := ?_) rfl rfl (by kernel_rfl) (by kernel_rfl) (by kernel_rfl) (by decide) (fun _ _ _ h => h) (Or.inl ⟨by rfl, ?hy2⟩) hT hS ?_
        case hy2 => (intro w' hT'; (try unfold T8 at hT'); (try unfold T9 at hT'); (try unfold S8 at hT'); go_simp; (try with_reducible rfl))
        try simp only [Act.put, List.setIfInBounds_toArray, List.set_cons_zero, List.set_cons_succ]
        refine two_takeT 3 (some 74) (v := ?_) rfl rfl (by kernel_rfl) (by kernel_rfl) (by kernel_rfl) (by decide) (fun _ _ _ h => h) (Or.inl ⟨by rfl, ?hy3⟩) hT hS ?_
        case hy3 => (intro w' hT'; (try unfold T8 at hT'); (try unfold T9 at hT'); (try unfold S8 at hT'); go_simp; (try with_reducible rfl))
        try simp only [Act.put, List.setIfInBounds_toArray, List.set_cons_zero, List.set_cons_succ]
        refine two_takeT 4 (some 75) (v := ?_) rfl rfl (by kernel_rfl) (by kernel_rfl) (by kernel_rfl) (by decide) (fun _ _ _ h => h) (Or.inl ⟨by rfl, ?hy4⟩) hT hS ?_
        case hy4 => (intro w' hT'; (try unfold T8 at hT'); (try unfold T9 at hT'); (try unfold S8 at hT'); go_simp; (try with_reducible rfl))
        try simp only [Act.put, List.setIfInBounds_toArray, List.set_cons_zero, List.set_cons_succ]
        refine two_takeT 5 (some 76) (v := ?_) rfl rfl (by kernel_rfl) (by kernel_rfl) (by kernel_rfl) (by decide) (fun _ _ _ h => h) (Or.inl ⟨by rfl, ?hy5⟩) hT hS ?_
        case hy5 => (intro w' hT'; (try unfold T8 at hT'); (try unfold T9 at hT'); (try unfold S8 at hT'); go_simp; (try with_reducible rfl))
        try simp only [Act.put, List.setIfInBounds_toArray, List.set_cons_zero, List.set_cons_succ]
        refine two_takeT 6 (some 77) (v := ?_) rfl rfl (by kernel_rfl) (by kernel_rfl) (by kernel_rfl) (by decide) (fun _ _ _ h => h) (Or.inl ⟨by rfl, ?hy6⟩) hT hS ?_
        case hy6 => (intro w' hT'; (try unfold T8 at hT'); (try unfold T9 at hT'); (try unfold S8 at hT'); go_simp; (try with_reducible rfl))
        try simp only [Act.put, List.setIfInBounds_toArray, List.set_cons_zero, List.set_cons_succ]
        refine two_takeT 7 (some 78) (v := ?_) rfl rfl (by kernel_rfl) (by kernel_rfl) (by kernel_rfl) (by decide) (fun _ _ _ h => h) (Or.inl ⟨by rfl, ?hy7⟩) hT hS ?_
        case hy7 => (intro w' hT'; (try unfold T8 at hT'); (try unfold T9 at hT'); (try unfold S8 at hT'); go_simp; (try with_reducible rfl))
        try simp only [Act.put, List.setIfInBounds_toArray, List.set_cons_zero, List.set_cons_succ]
        refine two_takeT 8 (some 79) (v := ?_) rfl rfl (by kernel_rfl) (by kernel_rfl) (by kernel_rfl) (by decide) (fun _ _ _ h => h) (Or.inl ⟨by rfl, ?hy8⟩) hT hS ?_
        case hy8 => (intro w' hT'; (try unfold T8 at hT'); (try unfold T9 at hT'); (try unfold S8 at hT'); go_simp; (try with_reducible rfl))
        try simp only [Act.put, List.setIfInBounds_toArray, List.set_cons_zero, List.set_cons_succ]
        refine two_takeT 9 (some 80) (v := ?_) rfl rfl (by kernel_rfl) (by kernel_rfl) (by kernel_rfl) (by decide) (fun _ _ _ h => h) (Or.inl ⟨by rfl, ?hy9⟩) hT hS ?_
        case hy9 => (intro w' hT'; (try unfold T8 at hT'); (try unfold T9 at hT'); (try unfold S8 at hT'); go_simp; (try with_reducible rfl))
        try simp only [Act.put, List.setIfInBounds_toArray, List.set_cons_zero, List.set_cons_succ]
        refine two_takeT 10 (some 81) (v := ?_) rfl rfl (by kernel_rfl) (by kernel_rfl) (by kernel_rfl) (by decide) (fun _ _ _ h => h) (Or.inl ⟨by rfl, ?hy10⟩) hT hS ?_
        case hy10 => (intro w' hT'; (try unfold T8 at hT'); (try unfold T9 at hT'); (try unfold S8 at hT'); go_simp; (try with_reducible rfl))
        try simp only [Act.put, List.setIfInBounds_toArray, List.set_cons_zero, List.set_cons_succ]
        refine two_one 11 rfl (by kernel_rfl) ?_
        intro K hK
        go_simp
        refine (HFA.out y0 HI0.out).mono ?_
        rintro e y1 ⟨⟨r, rfl⟩, hi1⟩
        have HI1 := Lib.hid hi1
        have hT1 : y1.cell? ⟨b, off + k * 12 + 9, none⟩ = some (.int .i64 an) ∧ y1.cell? ⟨b, off + k * 12 + 11, none⟩ = some (.slice avx akn avc) := by
          obtain ⟨_, _, _, _, _, _, _, _, _, r9, _, r11⟩ := HTC.out y1 hi1.live
          exact ⟨r9, r11⟩
        refine hK.out _ _ hT1 (fun _ _ => hS) ?_
        clear hK K hT hT1 hi1
        try simp only [Act.put, List.setIfInBounds_toArray, List.set_cons_zero, List.set_cons_succ]
        refine two_done (by kernel_rfl) ?_ _
        clear hS
        go_wp2_with fail
        go_roundw
        case rel => exact ⟨k + 1, by go_num, by omega, HI1.out⟩
        case measure => simp [intOf]; omega
      · have t5 : (km == 5) = false := beq_eq_false_iff_ne.2 n5
        have t6 : (km == 6) = false := beq_eq_false_iff_ne.2 n6
        have t7 : (km == 7) = false := beq_eq_false_iff_ne.2 n7
        have t8 : (km == 8) = false := beq_eq_false_iff_ne.2 n8
        have t11 : (km == 11) = false := beq_eq_false_iff_ne.2 n11
        have hap := HI.out.app HE.out (by omega) ⟨zt, zi, zp, zs, zh, za, zd, zn⟩ HSB.out.service HSB.out.host HSB.out.note
        unfold spV at hap
        have HAP := Lib.hid hap
        clear hap
        go_wp2_with fail
        refine (HAP.out).mono ?_
        rintro e y1 ⟨⟨r, rfl⟩, hi1⟩
        have HI1 := Lib.hid hi1
        clear hi1 c0 c1 c2 c3 c4 c5 c6 c7 c8 c9 c11
        go_wp2_with fail
        go_roundw
        case rel => exact ⟨k + 1, by go_num, by omega, HI1.out⟩
        case measure => simp [intOf]; omega
    · obtain rfl : k = n := by omega
      have hge : ¬ (k : Int) < k := by omega
      obtain ⟨d, h, g, p⟩ := HI.out
      obtain ⟨ec, es, eoff, l', t', est, enx, d3, eo, er3, est3, eo3, es3, eoff3⟩ := p.end_ (by omega) keep
      have HG := Lib.hid g
      have HST := Lib.hid est
      have HEO := Lib.hid eo
      have HOFF := Lib.hid eoff
      have HST3 := Lib.hid est3
      have HO3 := Lib.hid eoff3
      have HE3 := Lib.hid eo3
      have HES := Lib.hid es
      have HS8 := Lib.hid es3
      have HR3 := Lib.hid er3
      have HCR := Lib.hid (fun (W : World) (hW : LogW w W bd j d h (.slice none 0 0) []) => hW.crash (.slice kx kn kc) keep (KeepR.chg (HKR.out) (T := fun _ => False) (Chg.of_below hW.live) (fun _ e => e.elim)) (by rw [← HKN.out]; omega))
      have hup := g.up
      cases hoff : d.off with
      | false =>
        have hd1 : downed d keep = (d.crash keep).2 := by unfold downed; rw [hoff]; rfl
        have e0 := ec hoff
        rw [e0, ← hd1] at HCR
        obtain ⟨d1, hd2⟩ : ∃ d1, d1 = downed d keep := ⟨_, rfl⟩
        obtain ⟨d2, hd3⟩ : ∃ d2, d2 = d1.start.2 := ⟨_, rfl⟩
        obtain ⟨st, hst⟩ : ∃ st, st = d2.starts := ⟨_, rfl⟩
        rw [← hd2] at HCR HST HEO HOFF HES HS8 HR3
        rw [← hd3] at HST HEO HOFF HS8 HR3
        rw [← hst] at HS8 HR3
        have HD3 := Lib.hid hd3
        have HSD := Lib.hid hst
        rw [hoff] at hup
        have HUP := Lib.hid hup
        clear g p ec es eoff est eo er3 est3 eo3 es3 eoff3 hup hoff hd1 e0 hd2 hd3 hst HI HS1
        go_wp2_with fail
        refine HUP.out.mono ?_
        rintro e x0 ⟨rfl, rfl⟩
        go_wp2_with fail
        refine (HCR.out _ HG.out).mono ?_
        rintro e x1 ⟨rfl, hg1⟩
        have hsr := hg1.start
        rw [HES.out, ← HD3.out] at hsr
        have HSR := Lib.hid hsr
        clear hg1 hsr
        go_wp2_with fail
        refine HSR.out.mono ?_
        rintro e x2 ⟨rfl, hg2⟩
        have hop := hg2.opened HE.out HOFF.out HST.out (by omega) (by rw [HEO.out])
        rw [HEO.out] at hop
        have HOP := Lib.hid hop
        clear hg2 hop HSR
        go_wp2_with fail
        refine HOP.out.mono ?_
        rintro e x3 ⟨ja, rfl, X3, H3, hs3, _, _⟩
        have HS3 := Lib.hid hs3
        clear hs3 HOP
        go_wp2_with fail
        refine HS3.out.live.names.mono ?_
        rintro e x4 ⟨un, rfl, hun, hb4⟩
        obtain ⟨nx, nc, hnx, _⟩ := OwnS.each hun
        rw [strs_length] at hnx
        have hnl : (names d3.files).length = l'.length := by
          have h2 := HST3.out.total.2
          unfold names
          rw [List.length_map]
          simpa using h2
        rw [hnl] at hnx
        subst hnx
        have HS4 := Lib.hid (HS3.out.row (Chg.of_below (S := fun _ => False) hb4) fun b e => e.elim)
        have HN4 := Lib.hid hun
        have HNX := Lib.hid (show ∀ b, (Value.slice nx l'.length nc).ownBlock = some b → Also X3 x3 x4 b from fun b hb => .inr (World.ownsRow.lt hun b hb))
        clear hun hb4 hnl
        go_wp2_with fail
        refine HS4.out.live.unsynced.mono ?_
        rintro e x5 ⟨us, rfl, hus, hb5⟩
        obtain ⟨sx, sc, hsx⟩ := hus.shape
        have hul : d3.unsynced.length = l'.length := by
          have h2 := HST3.out.total.2
          unfold Dk.unsynced
          rw [List.length_map]
          simpa using h2
        rw [hul] at hsx
        subst hsx
        have HS5 := Lib.hid (HS4.out.row (Chg.of_below (S := fun _ => False) hb5) fun b e => e.elim)
        have HN5 := Lib.hid (OwnS.kept HN4.out hb5)
        have HU5 := Lib.hid hus
        have HUX := Lib.hid (show ∀ b, (Value.slice sx l'.length sc).ownBlock = some b → Also (Also X3 x3 x4) x4 x5 b from fun b hb => .inr (World.ownsRow.lt hus b hb))
        clear hus hb5 hul HN4
        go_wp2_with fail
        refine HS5.out.live.sizes.mono ?_
        rintro e x6 ⟨rfl, hb6⟩
        have HS6 := Lib.hid (HS5.out.below hb6)
        have HN6 := Lib.hid (OwnS.kept HN5.out hb6)
        have HU6 := Lib.hid (HU5.out.kept hb6)
        clear hb6 HN5 HU5
        have HOB := Lib.hid (hopen_any HS6.out.live HO3.out HE.out HST3.out (by omega))
        go_wp2_with fail
        refine HOB.out.mono ?_
        rintro e x7 h7
        have h7e : ∃ jb, e = .returned (.tuple #[.pointer (some ⟨jb, 0, none⟩), .int .i64 0]) ∧ ∃ N, NewIn x6 x7 N ∧ HS w (Plus (Also (Also X3 x3 x4) x4 x5) N) N x7 (.pointer (some ⟨bd, 0, none⟩)) d3 jb ⟨d3.starts, false, l'⟩ ∧ Keeps (Also (Also X3 x3 x4) x4 x5) x6 x7 := by
          unfold OpenPost at h7
          rw [HE3.out] at h7
          rcases h7 with ⟨_, h7⟩ | ⟨h7, _⟩
          · exact h7
          · exact absurd rfl h7
        obtain ⟨jb, rfl, N, hN, hsb, hK⟩ := h7e
        have ha7 := LogW.begun (HS6.out.turn (hsb.live.drop fun k hk => .inl hk) hK)
        rw [← HSD.out] at ha7
        have HA7 := Lib.hid ha7
        clear ha7
        have HN7 := Lib.hid (HN6.out.chgS (show Chg (fun k => ¬ Also (Also X3 x3 x4) x4 x5 k) x6 x7 from hK) fun b hb e => e (.inl (HNX.out b hb)))
        have HU7 := Lib.hid (HU6.out.chg (show Chg (fun k => ¬ Also (Also X3 x3 x4) x4 x5 k) x6 x7 from hK) fun b hb e => e (HUX.out b hb))
        rw [HS8.out] at hsb
        have HB7 := Lib.hid (LogW.begun hsb)
        clear h7 hN hsb hK HOB
        obtain ⟨h3, hh3⟩ : ∃ h3, h3 = (⟨st, false, l'⟩ : Hl) := ⟨_, rfl⟩
        have hr3 := HR3.out
        rw [← hh3] at HA7 HB7 hr3
        have hl3 : h3.l = l' := by rw [hh3]
        have hnx3 : nextOf h3.l ≤ 999999999 := by rw [hl3]; omega
        have HAL := Lib.hid (fun (W : World) (hW : Below x7.heap.size x7 W) => (HA7.out.below hW).all HE.out hr3 hnx3)
        have HBL := Lib.hid (fun (W : World) (hW : Below x7.heap.size x7 W) => (HB7.out.below hW).all HE.out hr3 hnx3)
        have HAF := Lib.hid (fun (W : World) (hW : Below x7.heap.size x7 W) => (HA7.out.below hW).first hr3 hnx3)
        have HBF := Lib.hid (fun (W : World) (hW : Below x7.heap.size x7 W) => (HB7.out.below hW).first hr3 hnx3)
        have HAE := Lib.hid (fun (W : World) (hW : Below x7.heap.size x7 W) => (HA7.out.below hW).end_ hr3 hnx3)
        have HBE := Lib.hid (fun (W : World) (hW : Below x7.heap.size x7 W) => (HB7.out.below hW).end_ hr3 hnx3)
        have HBS := Lib.hid (fun (W : World) (hW : Below x7.heap.size x7 W) => (HB7.out.below hW).sure HE.out hr3 hnx3)
        have HAG := Lib.hid (fun (W : World) (hW : Below x7.heap.size x7 W) => (HA7.out.below hW).segs hr3 hnx3)
        have HBG := Lib.hid (fun (W : World) (hW : Below x7.heap.size x7 W) => (HB7.out.below hW).segs hr3 hnx3)
        have HNM := Lib.hid (fun (W : World) (hW : Below x7.heap.size x7 W) => (HB7.out.below hW).names)
        have HUN := Lib.hid (fun (W : World) (hW : Below x7.heap.size x7 W) => (HB7.out.below hW).unsynced)
        have HSZ := Lib.hid (fun (W : World) (hW : Below x7.heap.size x7 W) => (HB7.out.below hW).size)
        have HLW := Lib.hid (fun (W : World) (hW : Below x7.heap.size x7 W) => (HB7.out.below hW).live)
        have hsl := hr3.file.recs_le.1
        have hslen : (sures h3.l (lastT l').length).length ≤ 1000000000 := by
          rw [sures_len hr3.chain]
          have := sureOf_le h3.l (lastT l').length
          omega
        have hsu : sureOf h3.l (lastT l').length = nextOf h3.l := by rw [hl3]; exact sureOf_all HST3.out.sgs
        rw [hsu] at HBS
        rw [hl3] at HAG HBG
        obtain ⟨ss, hss⟩ : ∃ ss, ss = sures h3.l (lastT l').length := ⟨_, rfl⟩
        rw [← hss] at HAL HBL hslen
        obtain ⟨sn, hsn⟩ : ∃ sn, sn = ss.length := ⟨_, rfl⟩
        have HSN := Lib.hid hsn
        obtain ⟨mm, hmm⟩ : ∃ mm, mm = l'.length := ⟨_, rfl⟩
        rw [← hmm] at HAG HBG HN7 HU7
        obtain ⟨ff, hff⟩ : ∃ ff, ff = firstOf h3.l := ⟨_, rfl⟩
        rw [← hff] at HAF HBF
        obtain ⟨nn9, hnn9⟩ : ∃ nn9, nn9 = nextOf h3.l := ⟨_, rfl⟩
        rw [← hnn9] at HAE HBE HBS
        have HNL := Lib.hid (show (strs (names d3.files)).length ≤ 1024 from by
          have h2 := HST3.out.total.2
          have h4 := HST3.out.ok.count
          rw [strs_length]
          unfold names
          rw [List.length_map]
          omega)
        have HUL := Lib.hid (show d3.unsynced.length ≤ 1024 from by
          have h4 := HST3.out.ok.count
          unfold Dk.unsynced
          rw [List.length_map]
          omega)
        rw [← hmm]
        clear hh3 hr3 hl3 hnx3 hsl hsu hss hsn hmm hff hnn9
        go_wp2_with fail
        refine (HAL.out x7 (Below.refl _ _)).mono ?_
        rintro e z1 ⟨u1, rfl, hu1, hb⟩
        obtain ⟨ax, ac, hax⟩ := OwnRow.shape hu1
        rw [← HSN.out] at hax
        subst hax
        have HB1 := Lib.hid hb
        have HU1 := Lib.hid hu1
        clear hb hu1
        go_wp2_with fail
        refine (HBL.out z1 HB1.out).mono ?_
        rintro e z2 ⟨u2, rfl, hu2, hb⟩
        obtain ⟨bx, bc, hbx⟩ := OwnRow.shape hu2
        rw [← HSN.out] at hbx
        subst hbx
        have HB2 := Lib.hid (HB1.out.trans (hb.mono HB1.out.size))
        have hsm := sameSpans_any _ _ ss ss z2 (OwnRow.rd spRow_len (OwnRow.below HU1.out hb)) (OwnRow.rd spRow_len hu2) hslen hslen
        rw [sameSp_true rfl] at hsm
        have HSM := Lib.hid hsm
        clear hb hu2 hsm HU1 hslen
        go_wp2_with fail
        refine (HSM.out).mono ?_
        rintro e z3 ⟨rfl, hb⟩
        have HB3 := Lib.hid (HB2.out.trans (hb.mono HB2.out.size))
        clear hb
        go_wp2_with fail
        refine (HAF.out z3 HB3.out).mono ?_
        rintro e z4 ⟨rfl, hb⟩
        have HB4 := Lib.hid (HB3.out.trans (hb.mono HB3.out.size))
        clear hb
        go_wp2_with fail
        refine (HBF.out z4 HB4.out).mono ?_
        rintro e z5 ⟨rfl, hb⟩
        have HB5 := Lib.hid (HB4.out.trans (hb.mono HB4.out.size))
        clear hb
        go_wp2_with fail
        refine (HAE.out z5 HB5.out).mono ?_
        rintro e z6 ⟨rfl, hb⟩
        have HB6 := Lib.hid (HB5.out.trans (hb.mono HB5.out.size))
        clear hb
        go_wp2_with fail
        refine (HBE.out z6 HB6.out).mono ?_
        rintro e z7 ⟨rfl, hb⟩
        have HB7b := Lib.hid (HB6.out.trans (hb.mono HB6.out.size))
        clear hb
        go_wp2_with fail
        refine (HBS.out z7 HB7b.out).mono ?_
        rintro e z8 ⟨rfl, hb⟩
        have HB8 := Lib.hid (HB7b.out.trans (hb.mono HB7b.out.size))
        clear hb
        go_wp2_with fail
        refine (HBE.out z8 HB8.out).mono ?_
        rintro e z9 ⟨rfl, hb⟩
        have HB9 := Lib.hid (HB8.out.trans (hb.mono HB8.out.size))
        clear hb
        go_wp2_with fail
        refine (HAG.out z9 HB9.out).mono ?_
        rintro e z10 ⟨rfl, hb⟩
        have HB10 := Lib.hid (HB9.out.trans (hb.mono HB9.out.size))
        clear hb
        go_wp2_with fail
        refine (HBG.out z10 HB10.out).mono ?_
        rintro e z11 ⟨rfl, hb⟩
        have HB11 := Lib.hid (HB10.out.trans (hb.mono HB10.out.size))
        clear hb
        go_wp2_with fail
        refine (HBG.out z11 HB11.out).mono ?_
        rintro e z12 ⟨rfl, hb⟩
        have HB12 := Lib.hid (HB11.out.trans (hb.mono HB11.out.size))
        clear hb
        go_wp2_with fail
        refine (HNM.out z12 HB12.out).mono ?_
        rintro e z13 ⟨v13, rfl, hv13, hb⟩
        have HB13 := Lib.hid (HB12.out.trans (hb.mono HB12.out.size))
        have hst := sameTexts_any v13 _ _ _ z13 hv13.rd (OwnS.kept HN7.out HB13.out).rd (by have := HNL.out; omega) (by have := HNL.out; omega)
        rw [decide_eq_true rfl] at hst
        have HSX := Lib.hid hst
        obtain ⟨vx, vc, hvx, _⟩ := OwnS.each hv13
        obtain ⟨vn, hvn⟩ : ∃ vn, vn = (strs (names d3.files)).length := ⟨_, rfl⟩
        rw [← hvn] at hvx
        subst hvx
        clear hb hst hv13 hvn
        go_wp2_with fail
        refine (HSX.out).mono ?_
        rintro e z14 ⟨rfl, hb⟩
        have HB14 := Lib.hid (HB13.out.trans (hb.mono HB13.out.size))
        clear hb
        go_wp2_with fail
        refine (HUN.out z14 HB14.out).mono ?_
        rintro e z15 ⟨v15, rfl, hv15, hb⟩
        have HB15 := Lib.hid (HB14.out.trans (hb.mono HB14.out.size))
        have hst := sameInts_any v15 _ _ _ z15 hv15.rd (HU7.out.kept HB15.out).rd (by have := HUL.out; omega) (by have := HUL.out; omega)
        rw [decide_eq_true rfl] at hst
        have HSI := Lib.hid hst
        obtain ⟨ix, ic, hix⟩ := hv15.shape
        obtain ⟨vm, hvm⟩ : ∃ vm, vm = d3.unsynced.length := ⟨_, rfl⟩
        rw [← hvm] at hix
        subst hix
        clear hb hst hv15 hvm
        go_wp2_with fail
        refine (HSI.out).mono ?_
        rintro e z16 ⟨rfl, hb⟩
        have HB16 := Lib.hid (HB15.out.trans (hb.mono HB15.out.size))
        clear hb
        go_wp2_with fail
        refine (HSZ.out z16 HB16.out).mono ?_
        rintro e z17 ⟨rfl, hb⟩
        have HB17 := Lib.hid (HB16.out.trans (hb.mono HB16.out.size))
        clear hb
        go_wp2_with fail
        refine (hdoesEx_any z17 (HE.out.below (HLW.out z17 HB17.out))).mono ?_
        rintro e z18 ⟨rfl, hb⟩
        have HL18 := Lib.hid ((HLW.out z17 HB17.out).trans (hb.mono (HLW.out z17 HB17.out).size))
        clear hb
        go_wp2_with fail
        go_ret
        exact ⟨rfl, HL18.out⟩
      | true =>
        have hd1 : downed d keep = d := by unfold downed; rw [hoff]; rfl
        rw [hd1] at HST HEO HOFF HES HS8 HR3
        obtain ⟨d2, hd3⟩ : ∃ d2, d2 = d.start.2 := ⟨_, rfl⟩
        obtain ⟨st, hst⟩ : ∃ st, st = d2.starts := ⟨_, rfl⟩
        rw [← hd3] at HST HEO HOFF HS8 HR3
        rw [← hst] at HS8 HR3
        have HD3 := Lib.hid hd3
        have HSD := Lib.hid hst
        rw [hoff] at hup
        have HUP := Lib.hid hup
        have hsr := g.start
        rw [HES.out, ← hd3] at hsr
        have HSR := Lib.hid hsr
        clear g p ec es eoff est eo er3 est3 eo3 es3 eoff3 hup hoff hd1 hd3 hst HI HS1 hsr
        go_wp2_with fail
        refine HUP.out.mono ?_
        rintro e x0 ⟨rfl, rfl⟩
        go_wp2_with fail
        refine HSR.out.mono ?_
        rintro e x2 ⟨rfl, hg2⟩
        have hop := hg2.opened HE.out HOFF.out HST.out (by omega) (by rw [HEO.out])
        rw [HEO.out] at hop
        have HOP := Lib.hid hop
        clear hg2 hop HSR
        go_wp2_with fail
        refine HOP.out.mono ?_
        rintro e x3 ⟨ja, rfl, X3, H3, hs3, _, _⟩
        have HS3 := Lib.hid hs3
        clear hs3 HOP
        go_wp2_with fail
        refine HS3.out.live.names.mono ?_
        rintro e x4 ⟨un, rfl, hun, hb4⟩
        obtain ⟨nx, nc, hnx, _⟩ := OwnS.each hun
        rw [strs_length] at hnx
        have hnl : (names d3.files).length = l'.length := by
          have h2 := HST3.out.total.2
          unfold names
          rw [List.length_map]
          simpa using h2
        rw [hnl] at hnx
        subst hnx
        have HS4 := Lib.hid (HS3.out.row (Chg.of_below (S := fun _ => False) hb4) fun b e => e.elim)
        have HN4 := Lib.hid hun
        have HNX := Lib.hid (show ∀ b, (Value.slice nx l'.length nc).ownBlock = some b → Also X3 x3 x4 b from fun b hb => .inr (World.ownsRow.lt hun b hb))
        clear hun hb4 hnl
        go_wp2_with fail
        refine HS4.out.live.unsynced.mono ?_
        rintro e x5 ⟨us, rfl, hus, hb5⟩
        obtain ⟨sx, sc, hsx⟩ := hus.shape
        have hul : d3.unsynced.length = l'.length := by
          have h2 := HST3.out.total.2
          unfold Dk.unsynced
          rw [List.length_map]
          simpa using h2
        rw [hul] at hsx
        subst hsx
        have HS5 := Lib.hid (HS4.out.row (Chg.of_below (S := fun _ => False) hb5) fun b e => e.elim)
        have HN5 := Lib.hid (OwnS.kept HN4.out hb5)
        have HU5 := Lib.hid hus
        have HUX := Lib.hid (show ∀ b, (Value.slice sx l'.length sc).ownBlock = some b → Also (Also X3 x3 x4) x4 x5 b from fun b hb => .inr (World.ownsRow.lt hus b hb))
        clear hus hb5 hul HN4
        go_wp2_with fail
        refine HS5.out.live.sizes.mono ?_
        rintro e x6 ⟨rfl, hb6⟩
        have HS6 := Lib.hid (HS5.out.below hb6)
        have HN6 := Lib.hid (OwnS.kept HN5.out hb6)
        have HU6 := Lib.hid (HU5.out.kept hb6)
        clear hb6 HN5 HU5
        have HOB := Lib.hid (hopen_any HS6.out.live HO3.out HE.out HST3.out (by omega))
        go_wp2_with fail
        refine HOB.out.mono ?_
        rintro e x7 h7
        have h7e : ∃ jb, e = .returned (.tuple #[.pointer (some ⟨jb, 0, none⟩), .int .i64 0]) ∧ ∃ N, NewIn x6 x7 N ∧ HS w (Plus (Also (Also X3 x3 x4) x4 x5) N) N x7 (.pointer (some ⟨bd, 0, none⟩)) d3 jb ⟨d3.starts, false, l'⟩ ∧ Keeps (Also (Also X3 x3 x4) x4 x5) x6 x7 := by
          unfold OpenPost at h7
          rw [HE3.out] at h7
          rcases h7 with ⟨_, h7⟩ | ⟨h7, _⟩
          · exact h7
          · exact absurd rfl h7
        obtain ⟨jb, rfl, N, hN, hsb, hK⟩ := h7e
        have ha7 := LogW.begun (HS6.out.turn (hsb.live.drop fun k hk => .inl hk) hK)
        rw [← HSD.out] at ha7
        have HA7 := Lib.hid ha7
        clear ha7
        have HN7 := Lib.hid (HN6.out.chgS (show Chg (fun k => ¬ Also (Also X3 x3 x4) x4 x5 k) x6 x7 from hK) fun b hb e => e (.inl (HNX.out b hb)))
        have HU7 := Lib.hid (HU6.out.chg (show Chg (fun k => ¬ Also (Also X3 x3 x4) x4 x5 k) x6 x7 from hK) fun b hb e => e (HUX.out b hb))
        rw [HS8.out] at hsb
        have HB7 := Lib.hid (LogW.begun hsb)
        clear h7 hN hsb hK HOB
        obtain ⟨h3, hh3⟩ : ∃ h3, h3 = (⟨st, false, l'⟩ : Hl) := ⟨_, rfl⟩
        have hr3 := HR3.out
        rw [← hh3] at HA7 HB7 hr3
        have hl3 : h3.l = l' := by rw [hh3]
        have hnx3 : nextOf h3.l ≤ 999999999 := by rw [hl3]; omega
        have HAL := Lib.hid (fun (W : World) (hW : Below x7.heap.size x7 W) => (HA7.out.below hW).all HE.out hr3 hnx3)
        have HBL := Lib.hid (fun (W : World) (hW : Below x7.heap.size x7 W) => (HB7.out.below hW).all HE.out hr3 hnx3)
        have HAF := Lib.hid (fun (W : World) (hW : Below x7.heap.size x7 W) => (HA7.out.below hW).first hr3 hnx3)
        have HBF := Lib.hid (fun (W : World) (hW : Below x7.heap.size x7 W) => (HB7.out.below hW).first hr3 hnx3)
        have HAE := Lib.hid (fun (W : World) (hW : Below x7.heap.size x7 W) => (HA7.out.below hW).end_ hr3 hnx3)
        have HBE := Lib.hid (fun (W : World) (hW : Below x7.heap.size x7 W) => (HB7.out.below hW).end_ hr3 hnx3)
        have HBS := Lib.hid (fun (W : World) (hW : Below x7.heap.size x7 W) => (HB7.out.below hW).sure HE.out hr3 hnx3)
        have HAG := Lib.hid (fun (W : World) (hW : Below x7.heap.size x7 W) => (HA7.out.below hW).segs hr3 hnx3)
        have HBG := Lib.hid (fun (W : World) (hW : Below x7.heap.size x7 W) => (HB7.out.below hW).segs hr3 hnx3)
        have HNM := Lib.hid (fun (W : World) (hW : Below x7.heap.size x7 W) => (HB7.out.below hW).names)
        have HUN := Lib.hid (fun (W : World) (hW : Below x7.heap.size x7 W) => (HB7.out.below hW).unsynced)
        have HSZ := Lib.hid (fun (W : World) (hW : Below x7.heap.size x7 W) => (HB7.out.below hW).size)
        have HLW := Lib.hid (fun (W : World) (hW : Below x7.heap.size x7 W) => (HB7.out.below hW).live)
        have hsl := hr3.file.recs_le.1
        have hslen : (sures h3.l (lastT l').length).length ≤ 1000000000 := by
          rw [sures_len hr3.chain]
          have := sureOf_le h3.l (lastT l').length
          omega
        have hsu : sureOf h3.l (lastT l').length = nextOf h3.l := by rw [hl3]; exact sureOf_all HST3.out.sgs
        rw [hsu] at HBS
        rw [hl3] at HAG HBG
        obtain ⟨ss, hss⟩ : ∃ ss, ss = sures h3.l (lastT l').length := ⟨_, rfl⟩
        rw [← hss] at HAL HBL hslen
        obtain ⟨sn, hsn⟩ : ∃ sn, sn = ss.length := ⟨_, rfl⟩
        have HSN := Lib.hid hsn
        obtain ⟨mm, hmm⟩ : ∃ mm, mm = l'.length := ⟨_, rfl⟩
        rw [← hmm] at HAG HBG HN7 HU7
        obtain ⟨ff, hff⟩ : ∃ ff, ff = firstOf h3.l := ⟨_, rfl⟩
        rw [← hff] at HAF HBF
        obtain ⟨nn9, hnn9⟩ : ∃ nn9, nn9 = nextOf h3.l := ⟨_, rfl⟩
        rw [← hnn9] at HAE HBE HBS
        have HNL := Lib.hid (show (strs (names d3.files)).length ≤ 1024 from by
          have h2 := HST3.out.total.2
          have h4 := HST3.out.ok.count
          rw [strs_length]
          unfold names
          rw [List.length_map]
          omega)
        have HUL := Lib.hid (show d3.unsynced.length ≤ 1024 from by
          have h4 := HST3.out.ok.count
          unfold Dk.unsynced
          rw [List.length_map]
          omega)
        rw [← hmm]
        clear hh3 hr3 hl3 hnx3 hsl hsu hss hsn hmm hff hnn9
        go_wp2_with fail
        refine (HAL.out x7 (Below.refl _ _)).mono ?_
        rintro e z1 ⟨u1, rfl, hu1, hb⟩
        obtain ⟨ax, ac, hax⟩ := OwnRow.shape hu1
        rw [← HSN.out] at hax
        subst hax
        have HB1 := Lib.hid hb
        have HU1 := Lib.hid hu1
        clear hb hu1
        go_wp2_with fail
        refine (HBL.out z1 HB1.out).mono ?_
        rintro e z2 ⟨u2, rfl, hu2, hb⟩
        obtain ⟨bx, bc, hbx⟩ := OwnRow.shape hu2
        rw [← HSN.out] at hbx
        subst hbx
        have HB2 := Lib.hid (HB1.out.trans (hb.mono HB1.out.size))
        have hsm := sameSpans_any _ _ ss ss z2 (OwnRow.rd spRow_len (OwnRow.below HU1.out hb)) (OwnRow.rd spRow_len hu2) hslen hslen
        rw [sameSp_true rfl] at hsm
        have HSM := Lib.hid hsm
        clear hb hu2 hsm HU1 hslen
        go_wp2_with fail
        refine (HSM.out).mono ?_
        rintro e z3 ⟨rfl, hb⟩
        have HB3 := Lib.hid (HB2.out.trans (hb.mono HB2.out.size))
        clear hb
        go_wp2_with fail
        refine (HAF.out z3 HB3.out).mono ?_
        rintro e z4 ⟨rfl, hb⟩
        have HB4 := Lib.hid (HB3.out.trans (hb.mono HB3.out.size))
        clear hb
        go_wp2_with fail
        refine (HBF.out z4 HB4.out).mono ?_
        rintro e z5 ⟨rfl, hb⟩
        have HB5 := Lib.hid (HB4.out.trans (hb.mono HB4.out.size))
        clear hb
        go_wp2_with fail
        refine (HAE.out z5 HB5.out).mono ?_
        rintro e z6 ⟨rfl, hb⟩
        have HB6 := Lib.hid (HB5.out.trans (hb.mono HB5.out.size))
        clear hb
        go_wp2_with fail
        refine (HBE.out z6 HB6.out).mono ?_
        rintro e z7 ⟨rfl, hb⟩
        have HB7b := Lib.hid (HB6.out.trans (hb.mono HB6.out.size))
        clear hb
        go_wp2_with fail
        refine (HBS.out z7 HB7b.out).mono ?_
        rintro e z8 ⟨rfl, hb⟩
        have HB8 := Lib.hid (HB7b.out.trans (hb.mono HB7b.out.size))
        clear hb
        go_wp2_with fail
        refine (HBE.out z8 HB8.out).mono ?_
        rintro e z9 ⟨rfl, hb⟩
        have HB9 := Lib.hid (HB8.out.trans (hb.mono HB8.out.size))
        clear hb
        go_wp2_with fail
        refine (HAG.out z9 HB9.out).mono ?_
        rintro e z10 ⟨rfl, hb⟩
        have HB10 := Lib.hid (HB9.out.trans (hb.mono HB9.out.size))
        clear hb
        go_wp2_with fail
        refine (HBG.out z10 HB10.out).mono ?_
        rintro e z11 ⟨rfl, hb⟩
        have HB11 := Lib.hid (HB10.out.trans (hb.mono HB10.out.size))
        clear hb
        go_wp2_with fail
        refine (HBG.out z11 HB11.out).mono ?_
        rintro e z12 ⟨rfl, hb⟩
        have HB12 := Lib.hid (HB11.out.trans (hb.mono HB11.out.size))
        clear hb
        go_wp2_with fail
        refine (HNM.out z12 HB12.out).mono ?_
        rintro e z13 ⟨v13, rfl, hv13, hb⟩
        have HB13 := Lib.hid (HB12.out.trans (hb.mono HB12.out.size))
        have hst := sameTexts_any v13 _ _ _ z13 hv13.rd (OwnS.kept HN7.out HB13.out).rd (by have := HNL.out; omega) (by have := HNL.out; omega)
        rw [decide_eq_true rfl] at hst
        have HSX := Lib.hid hst
        obtain ⟨vx, vc, hvx, _⟩ := OwnS.each hv13
        obtain ⟨vn, hvn⟩ : ∃ vn, vn = (strs (names d3.files)).length := ⟨_, rfl⟩
        rw [← hvn] at hvx
        subst hvx
        clear hb hst hv13 hvn
        go_wp2_with fail
        refine (HSX.out).mono ?_
        rintro e z14 ⟨rfl, hb⟩
        have HB14 := Lib.hid (HB13.out.trans (hb.mono HB13.out.size))
        clear hb
        go_wp2_with fail
        refine (HUN.out z14 HB14.out).mono ?_
        rintro e z15 ⟨v15, rfl, hv15, hb⟩
        have HB15 := Lib.hid (HB14.out.trans (hb.mono HB14.out.size))
        have hst := sameInts_any v15 _ _ _ z15 hv15.rd (HU7.out.kept HB15.out).rd (by have := HUL.out; omega) (by have := HUL.out; omega)
        rw [decide_eq_true rfl] at hst
        have HSI := Lib.hid hst
        obtain ⟨ix, ic, hix⟩ := hv15.shape
        obtain ⟨vm, hvm⟩ : ∃ vm, vm = d3.unsynced.length := ⟨_, rfl⟩
        rw [← hvm] at hix
        subst hix
        clear hb hst hv15 hvm
        go_wp2_with fail
        refine (HSI.out).mono ?_
        rintro e z16 ⟨rfl, hb⟩
        have HB16 := Lib.hid (HB15.out.trans (hb.mono HB15.out.size))
        clear hb
        go_wp2_with fail
        refine (HSZ.out z16 HB16.out).mono ?_
        rintro e z17 ⟨rfl, hb⟩
        have HB17 := Lib.hid (HB16.out.trans (hb.mono HB16.out.size))
        clear hb
        go_wp2_with fail
        refine (hdoesEx_any z17 (HE.out.below (HLW.out z17 HB17.out))).mono ?_
        rintro e z18 ⟨rfl, hb⟩
        have HL18 := Lib.hid ((HLW.out z17 HB17.out).trans (hb.mono (HLW.out z17 HB17.out).size))
        clear hb
        go_wp2_with fail
        go_ret
        exact ⟨rfl, HL18.out⟩
theorem walkHostlogTwice (x : Value × List HAct) (y : Value × List Int) (w : World) (h1 : HActsIn w x) (h2 : KeepIn w y) (he : LEnv w) :
    Calls Tryz.prog 9 #[x.1, y.1] w fun e w' => e = .returned (.bool true) ∧ Below w.heap.size w w' := hostlogTwice_any x.1 y.1 x.2 y.2 w h1 h2 he
end Go.Proofs.YtiepipcankhdnaaGreatDoor

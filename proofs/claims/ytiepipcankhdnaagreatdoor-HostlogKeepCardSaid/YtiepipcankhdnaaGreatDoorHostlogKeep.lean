/- 'HostlogKeep', walked. -/
import Derived.Test.YtiepipcankhdnaaGreatDoorJ12
import Derived.Deep.DeepCutAuto
import Derived.Deep.CutBlock
namespace Go.Proofs.YtiepipcankhdnaaGreatDoor
set_option linter.unusedSimpArgs false
set_option linter.unusedVariables false
set_option maxRecDepth 100000
open Go.RowKit Go.Maps
open Dsk

section
variable {w wr w' : World} {bd j k n m s : Nat} {d d' : Dk} {h h' : Hl} {u : Value} {rs known : List Sp.Span} {x : Sp.Span} {l : List Sg}
/-- A span is put behind the row; where the row lies then. -/
theorem LogW.push2 (h0 : LogW w wr bd j d h u rs) (hl : rs.length ≤ 100000000) (x : Sp.Span) (hw : w' = wr.alloc (.cells (spRow x).toArray 31 (0, 0))) :
    ∃ u' w2, (Builtin.append_ #[22, 22] 22 #[u, .slice (some ⟨wr.heap.size, 0, none⟩) 1 1]).run Tryz.prog w' = .ok u' w2 ∧ LogW w w2 bd j d h u' (rs ++ [x]) ∧ Chg (fun b => u.ownBlock = some b) wr w2 ∧ ∀ b, u'.ownBlock = some b → u.ownBlock = some b ∨ wr.heap.size ≤ b := by
  obtain ⟨X, H, h1, h3, h4⟩ := h0
  have hb : Below wr.heap.size wr w' := by rw [hw]; exact (Below.refl _ _).alloc (Nat.le_refl _) _
  have hkb : Blk w' wr.heap.size 31 (spRow x).toArray := by rw [hw]; exact Blk.alloc_new wr _ _
  have hz := h1.size
  obtain ⟨u', w2, e1, e2, e3, e4⟩ := run_append_rows (ty := 22) spRow_len (by omega) under_spans Tryz.info_span (by rfl) (by omega) (OwnRow.below h3 hb) (.slice (some ⟨wr.heap.size, 0, none⟩) 1 1) [x] (RdRow.one hkb rfl) (fun a _ => spRow_one a) (by simp; omega) (by simp; omega) (Nat.le_trans hz hb.size)
  have hs1 := h1.below hb
  have hs2 := hs1.row (chg_of_grown e3) fun b hb => ⟨(h4 b hb).1, (h4 b hb).2, (OwnRow.lt h3 b hb).1⟩
  have hc2 : Chg (fun b => u.ownBlock = some b) wr w2 := (Chg.of_below hb).trans (chg_of_grown e3)
  refine ⟨u', w2, e1, ⟨_, H, hs2, e2, fun b hb2 => ?_⟩, hc2, fun b hb2 => ?_⟩
  · rcases e4 with e4 | e4
    · rw [e4] at hb2
      exact ⟨.inl (h4 b hb2).1, (h4 b hb2).2⟩
    · rw [e4] at hb2
      injection hb2 with hb2
      have hlt := OwnRow.lt e2 b (by rw [e4, hb2])
      exact ⟨.inr ⟨by omega, hlt.2⟩, fun e => by have := (hs1.new b e).2; omega⟩
  · rcases e4 with e4 | e4
    · rw [e4] at hb2; exact .inl hb2
    · rw [e4] at hb2
      injection hb2 with hb2
      have := hb.size
      exact .inr (by omega)
/-- Between acts. -/
def KeepI (w wr : World) (bd j k : Nat) (kv : Value) (first : Nat) : Prop := ∃ d h s known, LogW w wr bd j d h kv known ∧ Run d h s ∧ Known h.l s known ∧ firstOf h.l = first ∧ nextOf h.l ≤ 70000 * k
/-- Behind an act. -/
def KeepA (w wr : World) (bd j : Nat) (kv : Value) (l : List Sg) (s : Nat) (known : List Sp.Span) : Prop := ∃ d' h', LogW w wr bd j d' h' kv known ∧ ((∃ s', Run d' h' s' ∧ Stp l s h'.l s') ∨ ∃ l' t', Flat d' l' t' ∧ Stp l s l' (lastT l' ++ t').length)
/-- Up again. -/
def KeepU (w wr : World) (bd j : Nat) (kv : Value) (l : List Sg) (s : Nat) (known : List Sp.Span) : Prop := ∃ d' h' s', LogW w wr bd j d' h' kv known ∧ Run d' h' s' ∧ Stp l s h'.l s'
theorem KeepI.live {kv : Value} {f : Nat} (h : KeepI w wr bd j k kv f) : Below w.heap.size w wr := by obtain ⟨_, _, _, _, h, _⟩ := h; exact h.live
theorem keep_app (g : LogW w wr bd j d h u known) (r : Run d h s) (he : LEnv w) (hn : nextOf h.l ≤ 999999999) (x : Sp.Span) (h1 : x.service.size ≤ maxLen) (h2 : x.host.size ≤ maxLen) (h3 : x.note.size ≤ maxLen) :
    Calls Tryz.prog 12 #[.pointer (some ⟨j, 0, none⟩), spV x] wr fun e w' => (∃ r, e = .returned (.int .i64 r)) ∧ KeepA w w' bd j u h.l s known := by
  refine (g.app he (r.hb hn) x h1 h2 h3).mono ?_
  rintro e w' ⟨rfl, hl⟩
  have e1 : appA d h x = appP d h x := by unfold appA; rw [if_pos r.runs]
  rw [e1] at hl ⊢
  exact ⟨⟨_, rfl⟩, _, _, hl, r.app hn x⟩
theorem keep_sync (g : LogW w wr bd j d h u known) (r : Run d h s) (he : LEnv w) (hn : nextOf h.l ≤ 999999999) :
    Calls Tryz.prog 14 #[.pointer (some ⟨j, 0, none⟩)] wr fun e w' => (∃ r, e = .returned (.int .i64 r)) ∧ KeepA w w' bd j u h.l s known := by
  refine (g.sync he (r.hb hn)).mono ?_
  rintro e w' ⟨rfl, hl⟩
  have e1 : syncA d h = syncP d h := by unfold syncA; rw [if_pos r.runs]
  rw [e1] at hl ⊢
  exact ⟨⟨_, rfl⟩, _, _, hl, r.sync⟩
theorem keep_rot (g : LogW w wr bd j d h u known) (r : Run d h s) (he : LEnv w) (hn : nextOf h.l ≤ 999999999) :
    Calls Tryz.prog 13 #[.pointer (some ⟨j, 0, none⟩)] wr fun e w' => (∃ r, e = .returned (.int .i64 r)) ∧ KeepA w w' bd j u h.l s known := by
  refine (g.rot he (r.hb hn)).mono ?_
  rintro e w' ⟨rfl, hl⟩
  have e1 : rotA d h = rotP d h := by unfold rotA; rw [if_pos r.runs]
  rw [e1] at hl ⊢
  exact ⟨⟨_, rfl⟩, _, _, hl, r.rot hn⟩
theorem keep_ret (g : LogW w wr bd j d h u known) (r : Run d h s) (he : LEnv w) (hn : nextOf h.l ≤ 999999999) (n : Int) :
    Calls Tryz.prog 23 #[.pointer (some ⟨j, 0, none⟩), .int .i64 n] wr fun e w' => (∃ r, e = .returned (.int .i64 r)) ∧ KeepA w w' bd j u h.l s known := by
  refine (g.ret he (r.hb hn) n).mono ?_
  rintro e w' ⟨rfl, hl⟩
  have e1 : retA n d h = retP n d h := by unfold retA; rw [if_pos r.runs]
  rw [e1] at hl ⊢
  exact ⟨⟨_, rfl⟩, _, _, hl, r.ret n⟩
theorem keep_crash (g : LogW w wr bd j d h u known) (r : Run d h s) (kv : Value) (keep : List Int) (hk : KeepR wr (fun k => w.heap.size ≤ k) kv keep) (hkl : keep.length ≤ 1000000) :
    Calls Tryz.prog 26 #[.pointer (some ⟨bd, 0, none⟩), kv] wr fun e w' => (∃ r, e = .returned (.int .i64 r)) ∧ KeepA w w' bd j u h.l s known := by
  refine (g.crash kv keep hk hkl).mono ?_
  rintro e w' ⟨rfl, hl⟩
  exact ⟨⟨_, rfl⟩, _, _, hl, .inr (r.crash keep)⟩
theorem keep_fail (g : LogW w wr bd j d h u known) (r : Run d h s) (n : Int) (hn : n ≤ 9223372036854775807) (kv : Value) (keep : List Int) (hk : KeepR wr (fun k => w.heap.size ≤ k) kv keep) (hkl : keep.length ≤ 1000000) :
    Calls Tryz.prog 29 #[.pointer (some ⟨bd, 0, none⟩), .int .i64 n, kv] wr fun e w' => (∃ r, e = .returned (.int .i64 r)) ∧ KeepA w w' bd j u h.l s known := by
  refine (g.fail n hn kv keep hk hkl).mono ?_
  rintro e w' ⟨rfl, hl⟩
  exact ⟨⟨_, rfl⟩, _, _, hl, .inl ⟨s, r.fail n keep (by omega), KR.refl _ _, first_le_sure r.chain s⟩⟩
end
set_option maxHeartbeats 16000000 in
theorem hostlogKeep_any (rm : Int) (v : Value) (l : List HAct) (w : World) (hrm : 0 ≤ rm ∧ rm ≤ 65535) (h1 : HActsIn w (v, l)) (he : LEnv w) :
    Calls Tryz.prog 6 #[.int .u16 rm, v] w fun e w' => e = .returned (.bool true) ∧ Below w.heap.size w w' := by
  obtain ⟨hrd, hlm⟩ := h1
  simp only at hrd hlm
  have HGR := Lib.hid (hgreat_any v l w.heap.size w hrd hlm)
  obtain ⟨x, c, rfl, hel⟩ := hrd
  have HEL := Lib.hid hel
  have HE := Lib.hid he
  obtain ⟨n, hn⟩ : ∃ n, n = l.length := ⟨_, rfl⟩
  rw [← hn] at hlm HGR ⊢
  unfold maxLen at hlm
  have HN := Lib.hid hn
  obtain ⟨cp, hcp⟩ : ∃ cp : Nat, cp = 500 + rm.toNat := ⟨_, rfl⟩
  have hcpi : 500 + rm = (cp : Int) := by omega
  have hcp1 : 1 ≤ cp ∧ cp ≤ 1048576 := by omega
  have hrmw : IntKind.i64.wrap rm = rm := by rw [IntKind.wrap_i64]; omega
  have hcpw : IntKind.i64.wrap (cp : Int) = cp := by rw [IntKind.wrap_i64]; omega
  clear hel he hn hcp
  go_enter Tryz.func6, Tryz.ntmps6
  go_wp2_with fail
  refine HGR.out.mono ?_
  rintro e w' ⟨⟨b, rfl, hsm⟩, rfl⟩
  by_cases hb1 : b = 1
  · subst hb1
    go_wp2_with fail
    go_ret
    exact ⟨rfl, Below.refl _ _⟩
  have hbf : (b == 1) = false := beq_eq_false_iff_ne.2 hb1
  have HSM := Lib.hid (hsm hb1)
  clear hsm hb1
  have hn150 : n ≤ 150 := by have := HSM.out.1; rw [HN.out]; exact this
  go_wp2_with fail
  refine (hopened_any cp hcp1.1 hcp1.2 w).mono ?_
  rintro e w1 ⟨bd, j, X, H, rfl, hs⟩
  have HS1 := Lib.hid (show KeepI w w1 bd j 0 (.slice none 0 0) 0 from ⟨_, _, 0, [], LogW.begun hs, ⟨⟨rfl, rfl, rfl⟩, LSt.new hcp1.1 hcp1.2⟩, Known.none, rfl, Nat.zero_le _⟩)
  clear hs hbf HGR hcpi hrmw hcpw
  go_wp2_with fail
  go_loopg [6, 7, 8, 9] n (fun g v6 v7 v8 v9 wr => ∃ (k j f : Nat), v9 = .int .i64 k ∧ k ≤ n ∧ g = n - k ∧ v6 = .pointer (some ⟨j, 0, none⟩) ∧ v8 = .int .i64 f ∧ KeepI w wr bd j k v7 f)
  case atStart => exact ⟨0, j, 0, rfl, Nat.zero_le _, rfl, rfl, rfl, HS1.out⟩
  case round =>
    clear HS1
    obtain ⟨k, j, f, rfl, hk, rfl, rfl, rfl, hinv⟩ := hrel
    have HI := Lib.hid hinv
    clear hinv
    by_cases hlt : k < n
    · have hkl : k < l.length := by rw [← HN.out]; exact hlt
      have hlt2 : (k : Int) < n := by omega
      obtain ⟨ho, b, off, hxe, hb, hc⟩ := HEL.out k hkl
      have hsa := HSM.out.2 k hkl
      obtain ⟨a, ha⟩ : ∃ a, a = l[k] := ⟨_, rfl⟩
      rw [← ha] at ho hc hsa
      obtain ⟨kd, ⟨zt, zi, zp, zs, zh, za, zd, zn⟩, an, am, av, ak⟩ := a
      have hkd := ho.kind
      have han := ho.n
      simp only at hkd han
      have hcells := hact_load (w := wr) (b := b) (off := off + k * 12) (a := ⟨kd, ⟨zt, zi, zp, zs, zh, za, zd, zn⟩, an, am, av, ak⟩) (fun i hi => by
        rw [Nat.add_assoc, ← hc i hi]
        exact HI.out.live.cell (p := ⟨b, off + (k * 12 + i), none⟩) hb)
      simp only at hcells
      have HKV := Lib.hid (fun (W : World) (hW : Below w.heap.size w W) => show KeepR W (fun k => w.heap.size ≤ k) av ak from ho.kv.chg (T := fun _ => False) (Chg.of_below hW) (fun _ e => e.elim))
      have HKL := Lib.hid (show ak.length ≤ 100 from hsa.2.2.2)
      have HSB := Lib.hid ho.s
      obtain ⟨avx, avc, hav⟩ := ho.kv.formH
      simp only at hav
      obtain ⟨akn, hakn⟩ : ∃ akn, akn = ak.length := ⟨_, rfl⟩
      rw [← hakn] at hav
      subst hav
      obtain ⟨c0, c1, c2, c3, c4, c5, c6, c7, c8, c9, c10, c11⟩ := hcells
      subst hxe
      obtain ⟨km, hkm9⟩ : ∃ km : Int, km = (kd : Int).tmod 13 := ⟨_, rfl⟩
      have hkm0 : 0 ≤ km ∧ km < 13 := by rw [hkm9, Int.tmod_eq_emod_of_nonneg (by omega)]; omega
      have hkmw : IntKind.u8.wrap km = km := by
        have : IntKind.u8.wrap km = km % 256 := rfl
        rw [this]; omega
      clear ho hc ha hsa hakn
      have hcs : km = 5 ∨ km = 6 ∨ km = 7 ∨ km = 8 ∨ km = 10 ∨ km = 11 ∨ (km ≠ 5 ∧ km ≠ 6 ∧ km ≠ 7 ∧ km ≠ 8 ∧ km ≠ 10 ∧ km ≠ 11) := by omega
      have hkm10 := hkm9.symm
      clear hkm9
      obtain ⟨d, h, s, known, hg, hr, hkn, hf, hnx⟩ := HI.out
      obtain ⟨kx, kc, hkx⟩ := OwnRow.shape hg.row
      obtain ⟨kn, hknl⟩ : ∃ kn, kn = known.length := ⟨_, rfl⟩
      rw [← hknl] at hkx
      subst hkx
      have HR := Lib.hid hr
      have HKN := Lib.hid hkn
      have HF := Lib.hid hf
      have HNL := Lib.hid hknl
      have HNX := Lib.hid (show nextOf h.l ≤ 999999999 by omega)
      have HNX2 := Lib.hid hnx
      have HLA := Lib.hid (fun (o : Obj) => show LogW w (wr.alloc o) bd j d h (.slice kx kn kc) known from hg.below ((Below.refl _ _).alloc (Nat.le_refl _) o))
      clear hg hr hkn hf hnx hknl HI
      go_upto_block 2 with fail
      go_cut [] (fun wx => KeepA w wx bd j (.slice kx kn kc) h.l s known)
      case first =>
        rcases hcs with rfl | rfl | rfl | rfl | rfl | rfl | ⟨n5, n6, n7, n8, n10, n11⟩
        · skip
          go_wp2_with fail
          refine (keep_sync (HLA.out _) HR.out HE.out HNX.out).mono ?_
          rintro e y1 ⟨⟨r, rfl⟩, hi1⟩
          have HI1 := Lib.hid hi1
          clear hi1 c0 c1 c2 c3 c4 c5 c6 c7 c8 c9 c10 c11
          go_wp2_with fail
          go_meet
          exact HI1.out
        · skip
          go_wp2_with fail
          refine (keep_sync (HLA.out _) HR.out HE.out HNX.out).mono ?_
          rintro e y1 ⟨⟨r, rfl⟩, hi1⟩
          have HI1 := Lib.hid hi1
          clear hi1 c0 c1 c2 c3 c4 c5 c6 c7 c8 c9 c10 c11
          go_wp2_with fail
          go_meet
          exact HI1.out
        · skip
          go_wp2_with fail
          refine (keep_rot (HLA.out _) HR.out HE.out HNX.out).mono ?_
          rintro e y1 ⟨⟨r, rfl⟩, hi1⟩
          have HI1 := Lib.hid hi1
          clear hi1 c0 c1 c2 c3 c4 c5 c6 c7 c8 c9 c10 c11
          go_wp2_with fail
          go_meet
          exact HI1.out
        · skip
          go_wp2_with fail
          refine (keep_ret (HLA.out _) HR.out HE.out HNX.out an).mono ?_
          rintro e y1 ⟨⟨r, rfl⟩, hi1⟩
          have HI1 := Lib.hid hi1
          clear hi1 c0 c1 c2 c3 c4 c5 c6 c7 c8 c9 c10 c11
          go_wp2_with fail
          go_meet
          exact HI1.out
        · skip
          go_wp2_with fail
          refine (keep_crash (HLA.out _) HR.out _ ak (HKV.out _ (HLA.out _).live) (by have := HKL.out; omega)).mono ?_
          rintro e y1 ⟨⟨r, rfl⟩, hi1⟩
          have HI1 := Lib.hid hi1
          clear hi1 c0 c1 c2 c3 c4 c5 c6 c7 c8 c9 c10 c11
          go_wp2_with fail
          go_meet
          exact HI1.out
        · skip
          go_wp2_with fail
          refine (keep_fail (HLA.out _) HR.out an han.2 _ ak (HKV.out _ (HLA.out _).live) (by have := HKL.out; omega)).mono ?_
          rintro e y1 ⟨⟨r, rfl⟩, hi1⟩
          have HI1 := Lib.hid hi1
          clear hi1 c0 c1 c2 c3 c4 c5 c6 c7 c8 c9 c10 c11
          go_wp2_with fail
          go_meet
          exact HI1.out
        · have t5 : (km == 5) = false := beq_eq_false_iff_ne.2 n5
          have t6 : (km == 6) = false := beq_eq_false_iff_ne.2 n6
          have t7 : (km == 7) = false := beq_eq_false_iff_ne.2 n7
          have t8 : (km == 8) = false := beq_eq_false_iff_ne.2 n8
          have t10 : (km == 10) = false := beq_eq_false_iff_ne.2 n10
          have t11 : (km == 11) = false := beq_eq_false_iff_ne.2 n11
          have hap := fun o => keep_app (HLA.out o) HR.out HE.out HNX.out ⟨zt, zi, zp, zs, zh, za, zd, zn⟩ HSB.out.service HSB.out.host HSB.out.note
          unfold spV at hap
          have HAP := Lib.hid hap
          clear hap
          go_wp2_with fail
          refine (HAP.out _).mono ?_
          rintro e y1 ⟨⟨r, rfl⟩, hi1⟩
          have HI1 := Lib.hid hi1
          clear hi1 c0 c1 c2 c3 c4 c5 c6 c7 c8 c9 c10 c11
          go_wp2_with fail
          go_meet
          exact HI1.out
      case rest =>
        obtain ⟨d', h', g', ho⟩ := hcut
        have hup := g'.up
        obtain ⟨of, hof⟩ : ∃ of, of = d'.off := ⟨_, rfl⟩
        rw [← hof] at hup
        have HUP := Lib.hid hup
        have HOF := Lib.hid hof
        clear hup hof
        have HG' := Lib.hid g'
        have HO' := Lib.hid ho
        clear g' ho c0 c1 c2 c3 c4 c5 c6 c7 c8 c9 c10 c11 hcs HLA HKV HKL HSB
        go_wp2_with fail
        refine HUP.out.mono ?_
        rintro e x1 ⟨rfl, rfl⟩
        clear HUP
        go_upto_if 76 with fail
        go_cut [6] (fun v6 wx => ∃ j2 : Nat, v6 = .pointer (some ⟨j2, 0, none⟩) ∧ KeepU w wx bd j2 (.slice kx kn kc) h.l s known)
        case first =>
          rcases HO'.out with ⟨s', hr', st⟩ | ⟨l', t', hfl, st⟩
          · have HX := Lib.hid (show KeepU w wc bd j (.slice kx kn kc) h.l s known from ⟨d', h', s', HG'.out, hr', st⟩)
            have hoff : of = false := HOF.out.trans hr'.off
            subst hoff
            clear hr' st
            go_wp2_with fail
            go_meet
            exact ⟨j, rfl, HX.out⟩
          · obtain ⟨s1, s2, s3, s4⟩ := hfl.start
            have hb9 : nextOf l' ≤ 999999999 := by
              have h1 := st.next hfl.file
              have h2 := HNX2.out
              omega
            have hsr := HG'.out.start
            rw [s1] at hsr
            have HSR := Lib.hid hsr
            have hoff : of = true := HOF.out.trans hfl.off
            subst hoff
            rcases open_up s4 s2 s3 hb9 with ⟨d3, o1, o2, o3, o4, o5, o6⟩ | ⟨d3, o1, _⟩
            · have HOP := Lib.hid (fun (W : World) (g : LogW w W bd j d'.start.2 h' (.slice kx kn kc) known) => show Calls Tryz.prog 22 #[.pointer (some ⟨bd, 0, none⟩)] W (fun e w' => ∃ j', e = .returned (.tuple #[.pointer (some ⟨j', 0, none⟩), .int .i64 0]) ∧ KeepU w w' bd j' (.slice kx kn kc) h.l s known) from by
                refine (g.opened HE.out s2 s4 hb9 (by rw [o1])).mono ?_
                rintro e w' ⟨j', rfl, hg⟩
                rw [o1] at hg
                exact ⟨j', rfl, _, _, _, hg, o2, st.trans o4 rfl⟩)
              clear s1 s2 s3 s4 hb9 hsr o1 o2 o3 o4 o5 o6 st hfl
              go_wp2_with fail
              refine HSR.out.mono ?_
              rintro e x2 ⟨rfl, hg2⟩
              have HOP2 := Lib.hid (HOP.out x2 hg2)
              clear hg2 HOP HSR
              go_wp2_with fail
              refine HOP2.out.mono ?_
              rintro e x3 ⟨j2, rfl, hu⟩
              have HU3 := Lib.hid hu
              clear hu HOP2
              go_wp2_with fail
              go_loopg [11, 12] 1 (fun g v11 v12 wx => v11 = .pointer (some ⟨j2, 0, none⟩) ∧ v12 = .int .i64 0 ∧ wx = x3)
              case atStart => exact ⟨rfl, rfl, rfl⟩
              case round =>
                obtain ⟨rfl, rfl, rfl⟩ := hrel
                go_wp2_with fail
                go_meet
                exact ⟨j2, rfl, HU3.out⟩
            · have HOP := Lib.hid (fun (W : World) (g : LogW w W bd j d'.start.2 h' (.slice kx kn kc) known) => g.unopened HE.out s2 s4 hb9 (r := 50) (by rw [o1]) (by decide))
              clear s1 s2 s3 s4 hb9 hsr o1 st hfl
              go_wp2_with fail
              refine HSR.out.mono ?_
              rintro e x2 ⟨rfl, hg2⟩
              have HOP2 := Lib.hid (HOP.out x2 hg2)
              clear hg2 HOP HSR
              go_wp2_with fail
              refine HOP2.out.mono ?_
              rintro e x3 ⟨rfl, hu⟩
              have HU3 := Lib.hid hu
              clear hu HOP2
              go_wp2_with fail
              go_loopg [11, 12] 1 (fun g v11 v12 wx => v11 = .pointer none ∧ v12 = .int .i64 50 ∧ wx = x3)
              case atStart => exact ⟨rfl, rfl, rfl⟩
              case round =>
                obtain ⟨rfl, rfl, rfl⟩ := hrel
                go_wp2_with fail
                refine (hdoesEx_any _ (HE.out.below HU3.out)).mono ?_
                rintro e x4 ⟨rfl, hb⟩
                have HU4 := Lib.hid (HU3.out.trans (hb.mono HU3.out.size))
                clear hb
                go_wp2_with fail
                go_ret
                exact ⟨rfl, HU4.out⟩
        case rest =>
          obtain ⟨j2, hj2, d2, h2, s2, g2, r2, st2⟩ := hcut
          subst hj2
          have hnx2 : nextOf h2.l ≤ 70000 * (k + 1) := by
            have h1 := st2.next r2.file
            have h2 := HNX2.out
            omega
          have hnx9 : nextOf h2.l ≤ 999999999 := by omega
          have HAL := Lib.hid (g2.all HE.out r2 hnx9)
          have HFI := Lib.hid (fun (W : World) (hW : Below wc.heap.size wc W) => (g2.below hW).first r2 hnx9)
          have HSU := Lib.hid (fun (W : World) (hW : Below wc.heap.size wc W) => (g2.below hW).sure HE.out r2 hnx9)
          have HEN := Lib.hid (fun (W : World) (hW : Below wc.heap.size wc W) => (g2.below hW).end_ r2 hnx9)
          have hsl := sures_len r2.chain s2
          have hfs := first_le_sure r2.chain s2
          have hsn9 := sureOf_le h2.l s2
          have hkf := st2.kr.first
          have hks := st2.kr.sure
          have hkl2 := HKN.out.len
          have hf9 := HF.out
          rw [← HNL.out] at hkl2
          have HKA := Lib.hid (HKN.out.begin st2)
          obtain ⟨ss, hss⟩ : ∃ ss, ss = sures h2.l s2 := ⟨_, rfl⟩
          rw [← hss] at HAL hsl
          obtain ⟨sn, hsn⟩ : ∃ sn, sn = ss.length := ⟨_, rfl⟩
          obtain ⟨ff, hff⟩ : ∃ ff, ff = firstOf h2.l := ⟨_, rfl⟩
          obtain ⟨su, hsu⟩ : ∃ su, su = sureOf h2.l s2 := ⟨_, rfl⟩
          obtain ⟨ne, hne⟩ : ∃ ne, ne = nextOf h2.l := ⟨_, rfl⟩
          rw [← hff] at HFI hfs hkf hsl
          rw [← hsu] at HSU hfs hsn9 hks hsl
          rw [← hne] at HEN hsn9 hnx2 hnx9
          rw [← hsn] at hsl
          have t1 : ¬ (ff : Int) < f := by omega
          have t2 : ¬ (su : Int) < kn := by omega
          have t3 : ¬ (ne : Int) < su := by omega
          have HG2 := Lib.hid g2
          have HR2 := Lib.hid r2
          have HST2 := Lib.hid st2
          have HSS := Lib.hid hss
          have HSNL := Lib.hid hsn
          have HFF := Lib.hid hff
          have HNE := Lib.hid hne
          have HBD9 := Lib.hid (show sn ≤ 11000000 ∧ ff ≤ 11000000 ∧ ff + sn ≤ 11000000 from by omega)
          have HNX9 := Lib.hid hnx2
          have hbd1 : sn ≤ 11000000 := HBD9.out.1
          have hbd2 : ff ≤ 11000000 := HBD9.out.2.1
          clear g2 r2 st2 hnx2 hnx9 hsl hfs hsn9 hkf hks hkl2 hf9 hss hsn hff hsu hne HG' HO'
          go_wp2_with fail
          refine HAL.out.mono ?_
          rintro e z1 ⟨u2, rfl, hu2, hb⟩
          obtain ⟨sx, sc, hsx⟩ := OwnRow.shape hu2
          rw [← HSNL.out] at hsx
          subst hsx
          have HB1 := Lib.hid hb
          have HU1 := Lib.hid (show OwnSp z1 w.heap.size (.slice sx sn sc) ss from OwnRow.base hu2 HG2.out.live.size)
          have HUD := Lib.hid (show ∀ b, (Value.slice sx sn sc).ownBlock = some b → (Value.slice kx kn kc).ownBlock ≠ some b from fun b hb e => by
            have h1 := (OwnRow.lt hu2 b hb).1
            have h2 := (OwnRow.lt HG2.out.row b e).2
            omega)
          clear hb hu2 HAL
          go_wp2_with fail
          refine (HFI.out z1 HB1.out).mono ?_
          rintro e z2 ⟨rfl, hb⟩
          have HB2 := Lib.hid (HB1.out.trans (hb.mono HB1.out.size))
          have HU2 := Lib.hid (OwnRow.below HU1.out hb)
          clear hb
          go_wp2_with fail
          refine (HSU.out z2 HB2.out).mono ?_
          rintro e z3 ⟨rfl, hb⟩
          have HB3 := Lib.hid (HB2.out.trans (hb.mono HB2.out.size))
          have HU3 := Lib.hid (OwnRow.below HU2.out hb)
          clear hb
          go_wp2_with fail
          refine (HEN.out z3 HB3.out).mono ?_
          rintro e z4 ⟨rfl, hb⟩
          have HB4 := Lib.hid (HB3.out.trans (hb.mono HB3.out.size))
          have HU4 := Lib.hid (OwnRow.below HU3.out hb)
          clear hb
          go_wp2_with fail
          refine (HSU.out z4 HB4.out).mono ?_
          rintro e z5 ⟨rfl, hb⟩
          have HB5 := Lib.hid (HB4.out.trans (hb.mono HB4.out.size))
          have HU5 := Lib.hid (OwnRow.below HU4.out hb)
          clear hb
          go_wp2_with fail
          refine (HFI.out z5 HB5.out).mono ?_
          rintro e z6 ⟨rfl, hb⟩
          have HB6 := Lib.hid (HB5.out.trans (hb.mono HB5.out.size))
          have HU6 := Lib.hid (OwnRow.below HU5.out hb)
          clear hb
          have HG6 := Lib.hid (HG2.out.below HB6.out)
          clear HU1 HU2 HU3 HU4 HU5 HB1 HB2 HB3 HB4 HB5 HB6 HFI HSU HEN HG2 t1 t2 t3
          go_wp2_with fail
          go_loopg [7, 15] sn (fun g v7 v15 wx => ∃ (i : Nat) (kn9 : List Sp.Span), v15 = .int .i64 i ∧ i ≤ sn ∧ g = sn - i ∧ LogW w wx bd j2 d2 h2 v7 kn9 ∧ KnownAt h.l s h2.l s2 kn9 i ∧ OwnSp wx w.heap.size (.slice sx sn sc) ss ∧ ∀ b, (Value.slice sx sn sc).ownBlock = some b → v7.ownBlock ≠ some b)
          case atStart => exact ⟨0, known, rfl, Nat.zero_le _, rfl, HG6.out, HKA.out, HU6.out, HUD.out⟩
          case round =>
            clear HG6 HU6 HUD HKA HNL HKN
            obtain ⟨i, kn9, rfl, hi, rfl, hg, hka, hu, hud⟩ := hrel
            by_cases hlt9 : i < sn
            · have hlt8 : (i : Int) < sn := by omega
              have hisl : i < ss.length := by rw [← HSNL.out]; exact hlt9
              have his : i < (sures h2.l s2).length := by rw [← HSS.out]; exact hisl
              have hssi : ss[i] = (sures h2.l s2)[i] := by
                have h9 := HSS.out
                subst h9
                rfl
              obtain ⟨g1, c1, hsx1, _, _, hl1, hcs1⟩ := OwnRow.at_ spRow_len hu i hisl
              have hsx2 : sx = some ⟨g1, 0, none⟩ := by injection hsx1
              subst hsx2
              obtain ⟨kx9, kc9, hkx9⟩ := OwnRow.shape hg.row
              have hkle := hka.le HST2.out.kr HR2.out.chain (Nat.le_of_lt his)
              have hksu := sureOf_le h2.l s2
              rw [← HNE.out] at hksu
              obtain ⟨nn, hnn⟩ : ∃ nn, nn = ff + i := ⟨_, rfl⟩
              have hnni : (ff : Int) + (i : Int) = (nn : Int) := by omega
              have hnnw : IntKind.i64.wrap (nn : Int) = nn := by rw [IntKind.wrap_i64]; omega
              have hnf : firstOf h2.l + i = nn := by rw [← HFF.out]; omega
              have hne9 : ne ≤ 100000000 := by have := HNX9.out; omega
              obtain ⟨kl9, hkl9⟩ : ∃ kl9, kl9 = kn9.length := ⟨_, rfl⟩
              rw [← hkl9] at hkx9 hkle
              subst hkx9
              have d0 := (hcs1 0 _ rfl).1
              have d1 := (hcs1 1 _ rfl).1
              have d2' := (hcs1 2 _ rfl).1
              have d3 := (hcs1 3 _ rfl).1
              have d4 := (hcs1 4 _ rfl).1
              have d5 := (hcs1 5 _ rfl).1
              have d6 := (hcs1 6 _ rfl).1
              have d7 := (hcs1 7 _ rfl).1
              rw [Nat.add_zero] at d0
              obtain ⟨xk, hxk⟩ : ∃ xk, xk = ss[i] := ⟨_, rfl⟩
              rw [← hxk] at d0 d1 d2' d3 d4 d5 d6 d7
              by_cases hold : nn < kl9
              · have hold2 : (nn : Int) < kl9 := by omega
                have hold3 : ¬ (kl9 : Int) < nn := by omega
                have hold4 : ((nn : Int) == kl9) = false := by rw [beq_eq_false_iff_ne]; omega
                have hko := hka.old HR2.out.chain his (by rw [hnf, ← hkl9]; exact hold)
                obtain ⟨g3, c3, hkx3, _, _, hl3, hcs3⟩ := OwnRow.at_ spRow_len hg.row nn (by rw [← hkl9]; exact hold)
                have hkx4 : kx9 = some ⟨g3, 0, none⟩ := by injection hkx3
                subst hkx4
                have heq : kn9[nn]'(by rw [← hkl9]; exact hold) = xk := by
                  have h9 := hko.1
                  simp only [hnf] at h9
                  rw [h9, hxk, hssi]
                have f0 := (hcs3 0 _ rfl).1
                have f1 := (hcs3 1 _ rfl).1
                have f2 := (hcs3 2 _ rfl).1
                have f3 := (hcs3 3 _ rfl).1
                have f4 := (hcs3 4 _ rfl).1
                have f5 := (hcs3 5 _ rfl).1
                have f6 := (hcs3 6 _ rfl).1
                have f7 := (hcs3 7 _ rfl).1
                rw [Nat.add_zero] at f0
                rw [heq] at f0 f1 f2 f3 f4 f5 f6 f7
                have hneq := fun W => span_neq xk xk W
                rw [(spEq_iff xk xk).2 rfl] at hneq
                unfold spV at hneq
                have HREL := Lib.hid (fun (W : World) (hW : Below wr.heap.size wr W) => show LogW w W bd j2 d2 h2 (.slice (some ⟨g3, 0, none⟩) kl9 kc9) kn9 ∧ KnownAt h.l s h2.l s2 kn9 (i + 1) ∧ OwnSp W w.heap.size (.slice (some ⟨g1, 0, none⟩) sn sc) ss ∧ ∀ b, (Value.slice (some ⟨g1, 0, none⟩) sn sc).ownBlock = some b → (Value.slice (some ⟨g3, 0, none⟩) kl9 kc9).ownBlock ≠ some b from ⟨hg.below hW, hko.2, OwnRow.below hu hW, hud⟩)
                clear hg hka hu hud his hssi hsx1 hl1 hcs1 hkle hksu hnn hnf hkl9 hxk hko hkx3 hl3 hcs3 heq hisl
                go_wp2_with fail
                go_quiet (fail)
                have hbn : Below wr.heap.size wr (wr.drewN nq) := below_drewN (Below.refl _ _) nq
                have HFIN := Lib.hid (HREL.out _ hbn)
                clear hbn HREL d0 d1 d2' d3 d4 d5 d6 d7 f0 f1 f2 f3 f4 f5 f6 f7 hneq
                go_wp2_with fail
                go_roundg (sn - (i + 1))
                case measure => omega
                case rel => exact ⟨i + 1, kn9, by go_num, by omega, rfl, HFIN.out⟩
              · have hold2 : ¬ (nn : Int) < kl9 := by omega
                obtain ⟨hn1, hn2⟩ := hka.new HR2.out.chain his (by rw [hnf, ← hkl9]; exact hold)
                rw [hnf, ← hkl9] at hn1
                subst hn1
                rw [← hssi, ← hxk] at hn2
                have HG := Lib.hid hg
                have HU := Lib.hid hu
                have HUD := Lib.hid hud
                have HK2 := Lib.hid hn2
                have HKL9 := Lib.hid hkl9
                obtain ⟨zt, zi, zp, zs, zh, za, zd, zn⟩ := xk
                simp only at d0 d1 d2' d3 d4 d5 d6 d7
                have HDC := Lib.hid (fun (W : World) (hW : Below wr.heap.size wr W) => show W.cell? ⟨g1, i * 8, none⟩ = some (.int .i64 zt) ∧ W.cell? ⟨g1, i * 8 + 1, none⟩ = some (.int .i64 zi) ∧ W.cell? ⟨g1, i * 8 + 2, none⟩ = some (.int .i64 zp) ∧ W.cell? ⟨g1, i * 8 + 3, none⟩ = some (.string zs) ∧ W.cell? ⟨g1, i * 8 + 4, none⟩ = some (.string zh) ∧ W.cell? ⟨g1, i * 8 + 5, none⟩ = some (.int .i64 za) ∧ W.cell? ⟨g1, i * 8 + 6, none⟩ = some (.int .i64 zd) ∧ W.cell? ⟨g1, i * 8 + 7, none⟩ = some (.string zn) from
                  ⟨Below.old hW d0 hl1, Below.old hW d1 hl1, Below.old hW d2' hl1, Below.old hW d3 hl1, Below.old hW d4 hl1, Below.old hW d5 hl1, Below.old hW d6 hl1, Below.old hW d7 hl1⟩)
                clear hg hka hu hud his hssi hsx1 hl1 hcs1 hkle hksu hnn hnf hkl9 hxk hn2 hisl d0 d1 d2' d3 d4 d5 d6 d7
                go_wp2_with fail
                go_quiet (fail)
                obtain ⟨y1, hy1⟩ : ∃ y, y = wr.drewN nq := ⟨_, rfl⟩
                rw [← hy1]
                have HY1 := Lib.hid (show Below wr.heap.size wr y1 by rw [hy1]; exact below_drewN (Below.refl _ _) nq)
                clear hy1
                obtain ⟨d0, d1, d2', d3, d4, d5, d6, d7⟩ := HDC.out y1 HY1.out
                obtain ⟨u9, y3, hrun, hg9, hch9, hub9⟩ := (HG.out.below HY1.out).push2 (by rw [← HKL9.out]; have := HBD9.out; omega) ⟨zt, zi, zp, zs, zh, za, zd, zn⟩ (w' := y1.alloc (.cells #[.int .i64 zt, .int .i64 zi, .int .i64 zp, .string zs, .string zh, .int .i64 za, .int .i64 zd, .string zn] 31 (0, 0))) rfl
                have HRUN := Lib.hid hrun
                have HFIN := Lib.hid (show LogW w y3 bd j2 d2 h2 u9 (kn9 ++ [⟨zt, zi, zp, zs, zh, za, zd, zn⟩]) ∧ KnownAt h.l s h2.l s2 (kn9 ++ [⟨zt, zi, zp, zs, zh, za, zd, zn⟩]) (i + 1) ∧ OwnSp y3 w.heap.size (.slice (some ⟨g1, 0, none⟩) sn sc) ss ∧ ∀ b, (Value.slice (some ⟨g1, 0, none⟩) sn sc).ownBlock = some b → u9.ownBlock ≠ some b from
                  ⟨hg9, HK2.out, OwnRow.chg (OwnRow.below HU.out HY1.out) hch9 fun b hb e => HUD.out b hb e, fun b hb e => by
                    rcases hub9 b e with h9 | h9
                    · exact HUD.out b hb h9
                    · have h8 := (OwnRow.lt HU.out b hb).2
                      have h7 := HY1.out.size
                      omega⟩)
                clear hrun hg9 hch9 hub9
                go_wp2_with (at_builtin; refine Lib.wpList_append_run _ rfl _ _ _ _ rfl _ _ rfl rfl _ _ HRUN.out ?_)
                go_roundg (sn - (i + 1))
                case measure => omega
                case rel => exact ⟨i + 1, _, by go_num, by omega, rfl, HFIN.out⟩
            · obtain rfl : i = sn := by omega
              have hge : ¬ (i : Int) < i := by omega
              have hkd := (show KnownAt h.l s h2.l s2 kn9 (sures h2.l s2).length by rw [← HSS.out, ← HSNL.out]; exact hka).done HST2.out.kr HR2.out.chain
              have HFIN := Lib.hid (show KeepI w wr bd j2 (k + 1) u7 ff from ⟨d2, h2, s2, kn9, hg, HR2.out, hkd, HFF.out.symm, by rw [← HNE.out]; exact HNX9.out⟩)
              clear hg hka hu hud hkd
              go_wp2_with fail
              go_roundg (n - (k + 1))
              case measure => omega
              case rel => exact ⟨k + 1, j2, ff, by go_num, by omega, rfl, rfl, rfl, HFIN.out⟩
    · obtain rfl : k = n := by omega
      have hge : ¬ (k : Int) < k := by omega
      have HL := Lib.hid HI.out.live
      clear HI
      go_wp2_with fail
      refine (hdoesEx_any wr (HE.out.below HL.out)).mono ?_
      rintro e z1 ⟨rfl, hb⟩
      have HL1 := Lib.hid (HL.out.trans (hb.mono HL.out.size))
      clear hb
      go_wp2_with fail
      go_ret
      exact ⟨rfl, HL1.out⟩
theorem walkHostlogKeep (rm : Int) (x : Value × List HAct) (w : World) (hrm : 0 ≤ rm ∧ rm ≤ 65535) (h1 : HActsIn w x) (he : LEnv w) :
    Calls Tryz.prog 6 #[.int .u16 rm, x.1] w fun e w' => e = .returned (.bool true) ∧ Below w.heap.size w w' := hostlogKeep_any rm x.1 x.2 w hrm h1 he
end Go.Proofs.YtiepipcankhdnaaGreatDoor

/- 'HostlogTorn', walked. -/
import Derived.Test.YtiepipcankhdnaaGreatDoorJ12
namespace Go.Proofs.YtiepipcankhdnaaGreatDoor
set_option linter.unusedSimpArgs false
set_option linter.unusedVariables false
set_option maxRecDepth 100000
open Go.RowKit Go.Maps
open Dsk

section
variable {w wr w' : World} {bd j k n m : Nat} {d d' : Dk} {h h' : Hl} {u : Value} {rs : List Sp.Span} {x : Sp.Span}
theorem CalmS.more {k' : Nat} (c : CalmS d h rs k m) (hk : k ≤ k') : CalmS d h rs k' m := ⟨c.toCalm.more hk, c.sure⟩
theorem Calm.hb (c : Calm d h rs k) (hk : k ≤ 100000) : HB d h := ⟨by have := c.many; omega, fun _ => c.bnd hk, fun _ => by have := c.next; have := c.long; omega⟩
/-- A calm log, and the row of what it took. -/
def TornI (w wr : World) (bd j : Nat) (u : Value) (rs : List Sp.Span) (n m : Nat) : Prop := ∃ d h, LogW w wr bd j d h u rs ∧ CalmS d h rs n m
def TornM (w wr : World) (bd j : Nat) (u : Value) (rs : List Sp.Span) (x : Sp.Span) (n m : Nat) : Prop := ∃ d h, LogW w wr bd j d h u rs ∧ CalmS d h (rs ++ [x]) n m
theorem TornI.live (h : TornI w wr bd j u rs n m) : Below w.heap.size w wr := by obtain ⟨_, _, h, _⟩ := h; exact h.live
theorem TornM.live (h : TornM w wr bd j u rs x n m) : Below w.heap.size w wr := by obtain ⟨_, _, h, _⟩ := h; exact h.live
theorem TornI.more {n' : Nat} (h : TornI w wr bd j u rs n m) (hn : n ≤ n') : TornI w wr bd j u rs n' m := by obtain ⟨d, hh, h1, h2⟩ := h; exact ⟨d, hh, h1, h2.more hn⟩
theorem TornI.yes (h : TornI w wr bd j u rs n m) (he : LEnv w) (hn : n ≤ 1000) (x : Sp.Span) (h1 : x.service.size ≤ maxLen) (h2 : x.host.size ≤ maxLen) (h3 : x.note.size ≤ maxLen) (hx : Sp.May x) :
    Calls Tryz.prog 12 #[.pointer (some ⟨j, 0, none⟩), spV x] wr fun e w' => e = .returned (.int .i64 0) ∧ TornM w w' bd j u rs x (n + 1) m := by
  obtain ⟨d, hh, g1, g2⟩ := h
  refine (g1.app he (g2.toCalm.hb (by omega)) x h1 h2 h3).mono ?_
  rintro e w' ⟨rfl, hl⟩
  have e1 : appA d hh x = appP d hh x := by unfold appA; rw [if_pos g2.toCalm.runs]
  obtain ⟨e2, c⟩ := g2.app hn x hx
  rw [e1] at hl ⊢
  rw [e2]
  exact ⟨rfl, _, _, hl, c⟩
theorem TornI.no (h : TornI w wr bd j u rs n m) (he : LEnv w) (hn : n ≤ 1000) (x : Sp.Span) (h1 : x.service.size ≤ maxLen) (h2 : x.host.size ≤ maxLen) (h3 : x.note.size ≤ maxLen) (hx : ¬ Sp.May x) :
    Calls Tryz.prog 12 #[.pointer (some ⟨j, 0, none⟩), spV x] wr fun e w' => e = .returned (.int .i64 2) ∧ TornI w w' bd j u rs n m := by
  obtain ⟨d, hh, g1, g2⟩ := h
  refine (g1.app he (g2.toCalm.hb (by omega)) x h1 h2 h3).mono ?_
  rintro e w' ⟨rfl, hl⟩
  have e1 : appA d hh x = (2, hh, d) := by unfold appA; rw [if_pos g2.toCalm.runs]; exact app_bad d hh hx
  rw [e1] at hl ⊢
  exact ⟨rfl, _, _, hl, g2⟩
theorem TornM.push (h : TornM w wr bd j u rs x n m) (hn : n ≤ 100000) (hw : w' = wr.alloc (.cells (spRow x).toArray 31 (0, 0))) :
    ∃ u' w2, (Builtin.append_ #[22, 22] 22 #[u, .slice (some ⟨wr.heap.size, 0, none⟩) 1 1]).run Tryz.prog w' = .ok u' w2 ∧ TornI w w2 bd j u' (rs ++ [x]) n m := by
  obtain ⟨d, hh, g1, g2⟩ := h
  have hl := g2.long
  rw [List.length_append] at hl
  obtain ⟨u', w2, e1, e2, _⟩ := g1.push (by omega) x hw
  exact ⟨u', w2, e1, d, hh, e2, g2⟩
theorem rdSp_take {g : Option Addr} {cc k : Nat} {rn : Nat} (h : RdSp wr (.slice g rn cc) rs) (hk : k ≤ rs.length) : RdSp wr (.slice g k cc) (rs.take k) := by
  obtain ⟨x, c, e, hc, hx⟩ := h
  injection e with e1 e2 e3
  subst e1 e2 e3
  refine ⟨g, cc, by rw [List.length_take, Nat.min_eq_left hk], by rw [List.length_take]; omega, fun i hi => ?_⟩
  rw [List.length_take] at hi
  obtain ⟨b, off, e, hb, hh⟩ := hx i (by omega)
  exact ⟨b, off, e, hb, fun a v hv => hh a v (by rw [List.getElem_take] at hv; exact hv)⟩
end
set_option maxHeartbeats 16000000 in
theorem hostlogTorn_any (v mv kv : Value) (l more : List Sp.Span) (keep : List Int) (w : World) (h1 : SpansIn w (v, l)) (h2 : SpansIn w (mv, more)) (h3 : KeepIn w (kv, keep)) (he : LEnv w) :
    Calls Tryz.prog 7 #[v, mv, kv] w fun e w' => e = .returned (.bool true) ∧ Below w.heap.size w w' := by
  obtain ⟨hrd, hlm, hbd⟩ := h1
  obtain ⟨hrd2, hlm2, hbd2⟩ := h2
  obtain ⟨hkr, hkm⟩ := h3
  simp only at hrd hlm hbd hrd2 hlm2 hbd2 hkr hkm
  obtain ⟨x, c, rfl, hcap, hel⟩ := rdSp_open hrd
  obtain ⟨mx, mc, rfl, hcap2, hel2⟩ := rdSp_open hrd2
  obtain ⟨kx, kc, hkv⟩ := hkr.formH
  have HKR := Lib.hid hkr
  have HEL := Lib.hid hel
  have HBD := Lib.hid hbd
  have HEL2 := Lib.hid hel2
  have HBD2 := Lib.hid hbd2
  have HE := Lib.hid he
  obtain ⟨n, hn⟩ : ∃ n, n = l.length := ⟨_, rfl⟩
  obtain ⟨n2, hn2⟩ : ∃ n2, n2 = more.length := ⟨_, rfl⟩
  obtain ⟨kn, hkn⟩ : ∃ kn, kn = keep.length := ⟨_, rfl⟩
  rw [← hn] at hlm ⊢
  rw [← hn2] at hlm2 ⊢
  rw [← hkn] at hkm hkv
  subst hkv
  unfold maxLen at hlm hlm2 hkm
  have HN := Lib.hid hn
  have HN2 := Lib.hid hn2
  have HKN := Lib.hid hkn
  clear hrd hbd hrd2 hbd2 hkr hel hel2 he hn hn2 hkn hcap hcap2
  by_cases hbig : 60 < n ∨ 60 < n2 ∨ 100 < kn
  · by_cases b1 : 60 < n
    · have b1' : (60 : Int) < n := by omega
      go_enter Tryz.func7, Tryz.ntmps7
      go_wp2_with fail
      go_ret
      exact ⟨rfl, Below.refl _ _⟩
    · have b1' : ¬ (60 : Int) < n := by omega
      by_cases b2 : 60 < n2
      · have b2' : (60 : Int) < n2 := by omega
        go_enter Tryz.func7, Tryz.ntmps7
        go_wp2_with fail
        go_ret
        exact ⟨rfl, Below.refl _ _⟩
      · have b2' : ¬ (60 : Int) < n2 := by omega
        have b3' : (100 : Int) < kn := by omega
        have b3 : 100 < kn := by omega
        go_enter Tryz.func7, Tryz.ntmps7
        go_wp2_with fail
        go_ret
        exact ⟨rfl, Below.refl _ _⟩
  have b1 : ¬ 60 < n := by omega
  have b2 : ¬ 60 < n2 := by omega
  have b3 : ¬ 100 < kn := by omega
  have b1' : ¬ (60 : Int) < n := by omega
  have b2' : ¬ (60 : Int) < n2 := by omega
  have b3' : ¬ (100 : Int) < kn := by omega
  clear hbig
  go_enter Tryz.func7, Tryz.ntmps7
  go_wp2_with fail
  refine (hopened_any 1048576 (by omega) (by omega) w).mono ?_
  rintro e w1 ⟨bd, j, X, H, rfl, hs⟩
  have HS1 := Lib.hid (LogW.begun hs)
  clear hs
  go_wp2_with fail
  go_loopw [9, 10] (fun v9 v10 wr => ∃ k : Nat, v10 = .int .i64 k ∧ k ≤ n ∧ TornI w wr bd j v9 (mays (l.take k)) k 0) (fun _ v10 _ => n - (intOf v10).toNat)
  case atStart => exact ⟨0, rfl, Nat.zero_le _, _, _, HS1.out, calm_new, 0, LSt.new (by omega) (by omega), Nat.zero_le _⟩
  case round =>
    obtain ⟨k, rfl, hk, hinv⟩ := hrel
    have HI := Lib.hid hinv
    clear hinv
    by_cases hlt : k < n
    · have hkl : k < l.length := by rw [← HN.out]; exact hlt
      have hlt2 : (k : Int) < n := by omega
      obtain ⟨b, off, hxe, hb, p0, p1, p2, p3, p4, p5, p6, p7⟩ := HEL.out k hkl
      have hbk := HBD.out l[k] (List.getElem_mem hkl)
      obtain ⟨xk, hxk⟩ : ∃ xk, xk = l[k] := ⟨_, rfl⟩
      rw [← hxk] at p0 p1 p2 p3 p4 p5 p6 p7 hbk
      obtain ⟨zt, zi, zp, zs, zh, za, zd, zn⟩ := xk
      have HXK := Lib.hid hxk
      simp only at p0 p1 p2 p3 p4 p5 p6 p7
      have HTC := Lib.hid (fun (W : World) (hW : Below w.heap.size w W) => show W.cell? ⟨b, off + k * 8, none⟩ = some (.int .i64 zt) ∧ W.cell? ⟨b, off + k * 8 + 1, none⟩ = some (.int .i64 zi) ∧ W.cell? ⟨b, off + k * 8 + 2, none⟩ = some (.int .i64 zp) ∧ W.cell? ⟨b, off + k * 8 + 3, none⟩ = some (.string zs) ∧ W.cell? ⟨b, off + k * 8 + 4, none⟩ = some (.string zh) ∧ W.cell? ⟨b, off + k * 8 + 5, none⟩ = some (.int .i64 za) ∧ W.cell? ⟨b, off + k * 8 + 6, none⟩ = some (.int .i64 zd) ∧ W.cell? ⟨b, off + k * 8 + 7, none⟩ = some (.string zn) from
        ⟨Below.old hW p0 hb, Below.old hW p1 hb, Below.old hW p2 hb, Below.old hW p3 hb, Below.old hW p4 hb, Below.old hW p5 hb, Below.old hW p6 hb, Below.old hW p7 hb⟩)
      subst hxe
      obtain ⟨q0, q1, q2, q3, q4, q5, q6, q7⟩ := HTC.out wr HI.out.live
      clear p0 p1 p2 p3 p4 p5 p6 p7 hxk
      by_cases hmay : Sp.May (⟨zt, zi, zp, zs, zh, za, zd, zn⟩ : Sp.Span)
      · have hap := HI.out.yes HE.out (by omega) _ hbk.service hbk.host hbk.note hmay
        unfold spV at hap
        have HAP := Lib.hid hap
        clear hbk hap
        go_wp2_with fail
        refine HAP.out.mono ?_
        rintro e y1 ⟨rfl, hm1⟩
        have HM1 := Lib.hid hm1
        clear hm1 HAP q0 q1 q2 q3 q4 q5 q6 q7
        obtain ⟨q0, q1, q2, q3, q4, q5, q6, q7⟩ := HTC.out y1 HM1.out.live
        obtain ⟨u', y2, hrun, hpu⟩ := HM1.out.push (by omega) (w' := y1.alloc (.cells #[.int .i64 zt, .int .i64 zi, .int .i64 zp, .string zs, .string zh, .int .i64 za, .int .i64 zd, .string zn] 31 (0, 0))) rfl
        have HRUN := Lib.hid hrun
        have HPU := Lib.hid hpu
        clear hrun hpu
        go_wp2_with (at_builtin; refine Lib.wpList_append_run _ rfl _ _ _ _ rfl _ _ rfl rfl _ _ HRUN.out ?_)
        go_roundw
        case rel =>
          refine ⟨k + 1, by go_num, by omega, ?_⟩
          have e : mays (l.take (k + 1)) = mays (l.take k) ++ [⟨zt, zi, zp, zs, zh, za, zd, zn⟩] := by rw [mays_yes l k hkl (by rw [← HXK.out]; exact hmay), ← HXK.out]
          rw [e]
          exact HPU.out.more (by omega)
        case measure => simp [intOf]; omega
      · have hap := HI.out.no HE.out (by omega) _ hbk.service hbk.host hbk.note hmay
        unfold spV at hap
        have HAP := Lib.hid hap
        clear hbk hap
        go_wp2_with fail
        refine HAP.out.mono ?_
        rintro e y1 ⟨rfl, hm1⟩
        have HM1 := Lib.hid hm1
        clear hm1 HAP q0 q1 q2 q3 q4 q5 q6 q7
        go_wp2_with fail
        go_roundw
        case rel =>
          refine ⟨k + 1, by go_num, by omega, ?_⟩
          rw [mays_no l k hkl (by rw [← HXK.out]; exact hmay)]
          exact HM1.out.more (by omega)
        case measure => simp [intOf]; omega
    · obtain rfl : k = n := by omega
      have hge : ¬ (k : Int) < k := by omega
      have hi := HI.out
      rw [List.take_of_length_le (by rw [← HN.out]; exact Nat.le_refl _)] at hi
      obtain ⟨d, h, g1, g2⟩ := hi
      obtain ⟨rs, hrs⟩ : ∃ rs, rs = mays l := ⟨_, rfl⟩
      rw [← hrs] at g1 g2
      have hlen := g2.long
      obtain ⟨e0, hcd, hsame⟩ := g2.toCalm.sync
      have e1 : syncA d h = syncP d h := by unfold syncA; rw [if_pos g2.toCalm.runs]
      have hsy := g1.sync HE.out (g2.toCalm.hb (by omega))
      rw [e1, e0, hsame] at hsy
      rw [hsame] at hcd
      obtain ⟨d2, hd2⟩ : ∃ d2, d2 = (syncP d h).2.2 := ⟨_, rfl⟩
      rw [← hd2] at hsy hcd
      have HSY := Lib.hid hsy
      have HC := Lib.hid hcd
      obtain ⟨sm, hsm⟩ : ∃ sm, sm = rs.length := ⟨_, rfl⟩
      have HSM := Lib.hid hsm
      rw [← hsm] at hlen
      have HRS := Lib.hid hrs
      clear g1 g2 e0 hsame e1 hsy hcd hd2 hsm hrs HI HS1
      go_wp2_with fail
      refine HSY.out.mono ?_
      rintro e y1 ⟨rfl, g1⟩
      have hr : Run d2 h (lastT h.l).length := ⟨HC.out.runs, HC.out.all⟩
      have hsu := g1.sure HE.out hr (by rw [HC.out.next, ← HSM.out]; omega)
      rw [sureOf_all HC.out.all.sgs, HC.out.next, ← HSM.out] at hsu
      have HSU := Lib.hid hsu
      have HG1 := Lib.hid g1
      clear hsu g1 hr HSY
      go_wp2_with fail
      refine HSU.out.mono ?_
      rintro e y2 ⟨rfl, hb2⟩
      have HT2 := Lib.hid (show TornI w y2 bd j u9 (rs ++ mays (more.take 0)) (k + 0) sm from ⟨d2, h, by
        have e : rs ++ mays (more.take 0) = rs := by simp [mays]
        rw [e]
        exact ⟨HG1.out.below hb2, by have := HC.out.calmS; rw [← HSM.out] at this; exact this⟩⟩)
      clear hb2 HSU HG1 HC
      obtain ⟨n1, hn1⟩ : ∃ n1, n1 = k := ⟨_, rfl⟩
      have hn60 : n1 ≤ 60 := by omega
      rw [← hn1] at HT2
      clear hn1
      go_wp2_with fail
      go_loopw [9, 12] (fun v9 v12 wr => ∃ k : Nat, v12 = .int .i64 k ∧ k ≤ n2 ∧ TornI w wr bd j v9 (rs ++ mays (more.take k)) (n1 + k) sm) (fun _ v12 _ => n2 - (intOf v12).toNat)
      case atStart => exact ⟨0, rfl, Nat.zero_le _, HT2.out⟩
      case round =>
        obtain ⟨k, rfl, hk, hinv⟩ := hrel
        have HI := Lib.hid hinv
        clear hinv
        by_cases hlt : k < n2
        · have hkl : k < more.length := by rw [← HN2.out]; exact hlt
          have hlt2 : (k : Int) < n2 := by omega
          obtain ⟨b, off, hxe, hb, p0, p1, p2, p3, p4, p5, p6, p7⟩ := HEL2.out k hkl
          have hbk := HBD2.out more[k] (List.getElem_mem hkl)
          obtain ⟨xk, hxk⟩ : ∃ xk, xk = more[k] := ⟨_, rfl⟩
          rw [← hxk] at p0 p1 p2 p3 p4 p5 p6 p7 hbk
          obtain ⟨zt, zi, zp, zs, zh, za, zd, zn⟩ := xk
          have HXK := Lib.hid hxk
          simp only at p0 p1 p2 p3 p4 p5 p6 p7
          have HTC := Lib.hid (fun (W : World) (hW : Below w.heap.size w W) => show W.cell? ⟨b, off + k * 8, none⟩ = some (.int .i64 zt) ∧ W.cell? ⟨b, off + k * 8 + 1, none⟩ = some (.int .i64 zi) ∧ W.cell? ⟨b, off + k * 8 + 2, none⟩ = some (.int .i64 zp) ∧ W.cell? ⟨b, off + k * 8 + 3, none⟩ = some (.string zs) ∧ W.cell? ⟨b, off + k * 8 + 4, none⟩ = some (.string zh) ∧ W.cell? ⟨b, off + k * 8 + 5, none⟩ = some (.int .i64 za) ∧ W.cell? ⟨b, off + k * 8 + 6, none⟩ = some (.int .i64 zd) ∧ W.cell? ⟨b, off + k * 8 + 7, none⟩ = some (.string zn) from
            ⟨Below.old hW p0 hb, Below.old hW p1 hb, Below.old hW p2 hb, Below.old hW p3 hb, Below.old hW p4 hb, Below.old hW p5 hb, Below.old hW p6 hb, Below.old hW p7 hb⟩)
          subst hxe
          obtain ⟨q0, q1, q2, q3, q4, q5, q6, q7⟩ := HTC.out wr HI.out.live
          clear p0 p1 p2 p3 p4 p5 p6 p7 hxk
          by_cases hmay : Sp.May (⟨zt, zi, zp, zs, zh, za, zd, zn⟩ : Sp.Span)
          · have hap := HI.out.yes HE.out (by omega) _ hbk.service hbk.host hbk.note hmay
            unfold spV at hap
            have HAP := Lib.hid hap
            clear hbk hap
            go_wp2_with fail
            refine HAP.out.mono ?_
            rintro e y1 ⟨rfl, hm1⟩
            have HM1 := Lib.hid hm1
            clear hm1 HAP q0 q1 q2 q3 q4 q5 q6 q7
            obtain ⟨q0, q1, q2, q3, q4, q5, q6, q7⟩ := HTC.out y1 HM1.out.live
            obtain ⟨u', y2, hrun, hpu⟩ := HM1.out.push (by omega) (w' := y1.alloc (.cells #[.int .i64 zt, .int .i64 zi, .int .i64 zp, .string zs, .string zh, .int .i64 za, .int .i64 zd, .string zn] 31 (0, 0))) rfl
            have HRUN := Lib.hid hrun
            have HPU := Lib.hid hpu
            clear hrun hpu
            go_wp2_with (at_builtin; refine Lib.wpList_append_run _ rfl _ _ _ _ rfl _ _ rfl rfl _ _ HRUN.out ?_)
            go_roundw
            case rel =>
              refine ⟨k + 1, by go_num, by omega, ?_⟩
              have e : mays (more.take (k + 1)) = mays (more.take k) ++ [⟨zt, zi, zp, zs, zh, za, zd, zn⟩] := by rw [mays_yes more k hkl (by rw [← HXK.out]; exact hmay), ← HXK.out]
              rw [e, ← List.append_assoc]
              exact HPU.out.more (by omega)
            case measure => simp [intOf]; omega
          · have hap := HI.out.no HE.out (by omega) _ hbk.service hbk.host hbk.note hmay
            unfold spV at hap
            have HAP := Lib.hid hap
            clear hbk hap
            go_wp2_with fail
            refine HAP.out.mono ?_
            rintro e y1 ⟨rfl, hm1⟩
            have HM1 := Lib.hid hm1
            clear hm1 HAP q0 q1 q2 q3 q4 q5 q6 q7
            go_wp2_with fail
            go_roundw
            case rel =>
              refine ⟨k + 1, by go_num, by omega, ?_⟩
              rw [mays_no more k hkl (by rw [← HXK.out]; exact hmay)]
              exact HM1.out.more (by omega)
            case measure => simp [intOf]; omega
        · obtain rfl : k = n2 := by omega
          have hge : ¬ (k : Int) < k := by omega
          have hi := HI.out
          rw [List.take_of_length_le (by rw [← HN2.out]; exact Nat.le_refl _)] at hi
          obtain ⟨d, h, g1, g2⟩ := hi
          obtain ⟨ws, hws⟩ : ∃ ws, ws = rs ++ mays more := ⟨_, rfl⟩
          rw [← hws] at g1 g2
          have hlen := g2.long
          obtain ⟨ux, uc, hux⟩ := OwnRow.shape g1.row
          obtain ⟨wn, hwn⟩ : ∃ wn, wn = ws.length := ⟨_, rfl⟩
          rw [← hwn] at hux hlen
          subst hux
          obtain ⟨e0, l', t', hfl, hst, es, hoff, hnx, d3, m, eo, hcd, hm1, hm2⟩ := g2.torn (by omega) keep
          rw [← hwn] at hm2
          obtain ⟨s0, hs0, _⟩ := g2.sure
          have hr0 : Run d h s0 := ⟨g2.toCalm.runs, hs0⟩
          have hen := g1.end_ hr0 (by rw [g2.toCalm.next, ← hwn]; omega)
          rw [g2.toCalm.next, ← hwn] at hen
          have hnr1 : ¬ h.runs (d.crash keep).2 := not_runs_off h _ hfl.off
          have hnr2 : ¬ h.runs (d.crash keep).2.start.2 := not_runs_start g2.toCalm.runs keep
          obtain ⟨d1, hd1⟩ : ∃ d1, d1 = (d.crash keep).2 := ⟨_, rfl⟩
          obtain ⟨d2, hd2⟩ : ∃ d2, d2 = d1.start.2 := ⟨_, rfl⟩
          have hcr := fun (W : World) (hW : Below y2.heap.size y2 W) => hW
          have HCR := Lib.hid (fun (W : World) (hW : LogW w W bd j d h (.slice ux wn uc) ws) => hW.crash (.slice kx kn kc) keep (KeepR.chg (HKR.out) (T := fun _ => False) (Chg.of_below hW.live) (fun _ e => e.elim)) (by rw [← HKN.out]; omega))
          rw [e0, ← hd1] at HCR
          rw [← hd1] at hnr1 hnr2 hfl hst es hoff eo hcd
          rw [← hd2] at hnr2 hst hoff eo hcd
          have hmany := g2.many
          have hnext := g2.toCalm.next
          rw [← hwn] at hnext
          have HNR1 := Lib.hid hnr1
          have HNR2 := Lib.hid hnr2
          have HES := Lib.hid es
          have HD2 := Lib.hid hd2
          have HST := Lib.hid hst
          have HEO := Lib.hid eo
          have HOFF := Lib.hid hoff
          have HCD := Lib.hid hcd
          have HWN := Lib.hid hwn
          have HG1 := Lib.hid g1
          have HEN := Lib.hid hen
          have HML := Lib.hid (show h.l.length ≤ 1000 by omega)
          have HNXT := Lib.hid (show nextOf h.l ≤ 1000 by omega)
          clear g1 g2 e0 hfl hst es hoff eo hcd hs0 hr0 hen hnr1 hnr2 hd1 hd2 hcr hws hwn hmany hnext HI HT2
          go_wp2_with fail
          refine HEN.out.mono ?_
          rintro e y3 ⟨rfl, hb3⟩
          have HG3 := Lib.hid (HG1.out.below hb3)
          clear hb3 HEN
          go_wp2_with fail
          refine (HCR.out y3 HG3.out).mono ?_
          rintro e y4 ⟨rfl, hg4⟩
          have HG4 := Lib.hid hg4
          have HSY := Lib.hid (hg4.sync HE.out ⟨by have := HML.out; omega, fun e => absurd e HNR1.out, fun e => absurd e HNR1.out⟩)
          have e9 : syncA d1 h = (51, h, d1) := by unfold syncA; rw [if_neg HNR1.out]
          rw [e9] at HSY
          clear hg4 e9 HCR
          go_wp2_with fail
          refine HSY.out.mono ?_
          rintro e y5 ⟨rfl, hg5⟩
          have hsr := hg5.start
          rw [HES.out, ← HD2.out] at hsr
          have HSR := Lib.hid hsr
          clear hg5 hsr HSY
          go_wp2_with fail
          refine HSR.out.mono ?_
          rintro e y6 ⟨rfl, hg6⟩
          have HG6 := Lib.hid hg6
          have HE0 := Lib.hid (hg6.end0 HNR2.out (by have := HML.out; omega) (by have := HNXT.out; omega))
          clear hg6 HSR
          go_wp2_with fail
          refine HE0.out.mono ?_
          rintro e y7 ⟨rfl, hb7⟩
          have hop := (HG6.out.below hb7).opened HE.out HOFF.out HST.out (by omega) (by rw [HEO.out])
          rw [HEO.out] at hop
          have HOP := Lib.hid hop
          clear hb7 hop HE0
          go_wp2_with fail
          refine HOP.out.mono ?_
          rintro e y8 ⟨j2, rfl, hg8⟩
          obtain ⟨h3, hh3⟩ : ∃ h3, h3 = (⟨d2.starts, false, l'⟩ : Hl) := ⟨_, rfl⟩
          rw [← hh3] at hg8 HCD
          have hl3 : h3.l = l' := by rw [hh3]
          have hr3 : Run d3 h3 (lastT h3.l).length := ⟨HCD.out.runs, HCD.out.all⟩
          have hnx3 : nextOf h3.l ≤ 999999999 := by rw [hl3]; omega
          have hnxm : nextOf h3.l = m := by rw [HCD.out.next, List.length_take, ← HWN.out]; omega
          have hsum : sureOf h3.l (lastT h3.l).length = m := by rw [sureOf_all HCD.out.all.sgs, hnxm]
          have hsur : sures h3.l (lastT h3.l).length = ws.take m := by
            unfold sures
            rw [hsum, HCD.out.first, HCD.out.recs, Nat.sub_zero, List.take_take, Nat.min_self]
          have HG8 := Lib.hid hg8
          have HEN := Lib.hid (fun (W : World) (hW : Below y8.heap.size y8 W) => (HG8.out.below hW).end_ hr3 hnx3)
          rw [hnxm] at HEN
          have HSU := Lib.hid (fun (W : World) (hW : Below y8.heap.size y8 W) => (HG8.out.below hW).sure HE.out hr3 hnx3)
          rw [hsum] at HSU
          have HAL := Lib.hid (fun (W : World) (hW : Below y8.heap.size y8 W) => (HG8.out.below hW).all HE.out hr3 hnx3)
          rw [hsur] at HAL
          clear hg8 hh3 hl3 hr3 hnx3 hnxm hsum hsur HOP
          have hms : ¬ (m : Int) < sm := by omega
          have hmw : ¬ (wn : Int) < m := by omega
          go_wp2_with fail
          refine (HEN.out y8 (Below.refl _ _)).mono ?_
          rintro e z1 ⟨rfl, hb⟩
          have HB1 := Lib.hid hb
          clear hb
          go_wp2_with fail
          refine (HEN.out z1 HB1.out).mono ?_
          rintro e z2 ⟨rfl, hb⟩
          have HB2 := Lib.hid (HB1.out.trans (hb.mono HB1.out.size))
          clear hb
          go_wp2_with fail
          refine (HSU.out z2 HB2.out).mono ?_
          rintro e z3 ⟨rfl, hb⟩
          have HB3 := Lib.hid (HB2.out.trans (hb.mono HB2.out.size))
          clear hb
          go_wp2_with fail
          refine (HEN.out z3 HB3.out).mono ?_
          rintro e z4 ⟨rfl, hb⟩
          have HB4 := Lib.hid (HB3.out.trans (hb.mono HB3.out.size))
          clear hb
          go_wp2_with fail
          refine (HAL.out z4 HB4.out).mono ?_
          rintro e z5 ⟨u5, rfl, hu5, hb⟩
          have HB5 := Lib.hid (HB4.out.trans (hb.mono HB4.out.size))
          obtain ⟨sx, sc, hsx⟩ := OwnRow.shape hu5
          have hml : (ws.take m).length = m := by rw [List.length_take, ← HWN.out]; omega
          rw [hml] at hsx
          subst hsx
          have hro := OwnRow.rd spRow_len (OwnRow.below HG8.out.row HB5.out)
          have hcap : wn ≤ uc := by
            obtain ⟨x9, c9, e9, hc9, _⟩ := hro
            rw [← HWN.out] at hc9 e9
            injection e9 with _ _ e9
            omega
          have hsm := sameSpans_any _ _ (ws.take m) (ws.take m) z5 (OwnRow.rd spRow_len hu5) (rdSp_take hro (by rw [← HWN.out]; omega)) (by omega) (by omega)
          rw [sameSp_true rfl] at hsm
          have HSS := Lib.hid hsm
          have hm2' : (m : Int) ≤ uc := by omega
          clear hb hu5 hml hro hsm
          go_wp2_with fail
          refine HSS.out.mono ?_
          rintro e z6 ⟨rfl, hb⟩
          have HB6 := Lib.hid (HB5.out.trans (hb.mono HB5.out.size))
          clear hb HSS
          go_wp2_with fail
          refine (HEN.out z6 HB6.out).mono ?_
          rintro e z7 ⟨rfl, hb⟩
          have HB7 := Lib.hid (HB6.out.trans (hb.mono HB6.out.size))
          clear hb
          go_wp2_with fail
          refine (hspan_any 3 (by omega) z7).mono ?_
          rintro e z8 ⟨rfl, hb⟩
          have HG9 := Lib.hid (HG8.out.below (HB7.out.trans (hb.mono HB7.out.size)))
          have hmay := spanN_may (n := 3) (by omega)
          obtain ⟨e4, c4⟩ := HCD.out.toCalm.app (by omega) (spanN 3) hmay
          have hap := HG9.out.app HE.out (HCD.out.toCalm.hb (by omega)) (spanN 3) (by decide) (by decide) (by decide)
          have e5 : appA d3 h3 (spanN 3) = appP d3 h3 (spanN 3) := by unfold appA; rw [if_pos HCD.out.runs]
          rw [e5, e4] at hap
          obtain ⟨s4, hs4⟩ := c4.file
          have hr4 : Run (appP d3 h3 (spanN 3)).2.2 (appP d3 h3 (spanN 3)).2.1 s4 := ⟨c4.runs, hs4⟩
          have hml : (ws.take m).length = m := by rw [List.length_take, ← HWN.out]; omega
          have hnx4 : nextOf (appP d3 h3 (spanN 3)).2.1.l = m + 1 := by rw [c4.next, List.length_append, hml]; rfl
          obtain ⟨d4, hd4⟩ : ∃ d4, d4 = (appP d3 h3 (spanN 3)).2.2 := ⟨_, rfl⟩
          obtain ⟨h4, hh4⟩ : ∃ h4, h4 = (appP d3 h3 (spanN 3)).2.1 := ⟨_, rfl⟩
          rw [← hd4, ← hh4] at hap hr4
          rw [← hh4] at hnx4
          have HAP := Lib.hid hap
          have HR4 := Lib.hid hr4
          have HNX4 := Lib.hid hnx4
          clear hb hmay e4 c4 hap e5 hs4 hr4 hnx4 hd4 hh4 hml
          go_wp2_with fail
          refine HAP.out.mono ?_
          rintro e z9 ⟨rfl, hg9⟩
          have hen := hg9.end_ HR4.out (by rw [HNX4.out]; omega)
          rw [HNX4.out] at hen
          have HEN4 := Lib.hid hen
          have HL9 := Lib.hid hg9.live
          have hmw1 : IntKind.i64.wrap ((m : Int) + 1) = (m : Int) + 1 := by rw [IntKind.wrap_i64]; omega
          clear hg9 hen HAP
          go_wp2_with fail
          refine HEN4.out.mono ?_
          rintro e z10 ⟨rfl, hb⟩
          have HL10 := Lib.hid (HL9.out.trans (hb.mono HL9.out.size))
          clear hb HEN4
          go_wp2_with fail
          refine (hdoesEx_any z10 (HE.out.below HL10.out)).mono ?_
          rintro e z11 ⟨rfl, hb⟩
          have HL11 := Lib.hid (HL10.out.trans (hb.mono HL10.out.size))
          clear hb
          go_wp2_with fail
          go_ret
          exact ⟨rfl, HL11.out⟩
theorem walkHostlogTorn (x y : Value × List Sp.Span) (z : Value × List Int) (w : World) (h1 : SpansIn w x) (h2 : SpansIn w y) (h3 : KeepIn w z) (he : LEnv w) :
    Calls Tryz.prog 7 #[x.1, y.1, z.1] w fun e w' => e = .returned (.bool true) ∧ Below w.heap.size w w' := hostlogTorn_any x.1 y.1 z.1 x.2 y.2 z.2 w h1 h2 h3 he
end Go.Proofs.YtiepipcankhdnaaGreatDoor

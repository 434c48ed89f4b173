/- What is sent is what the log has from Next on, all that is sure, up to MaxBatch, and the same again until it is answered: walked. -/
import Derived.Test.YtdacanghbepjpaaGreatDoorDmH
import Derived.Test.YtdacanghbepjpaaGreatDoorDmTab
import Derived.Test.YtdacanghbepjpaaGreatDoorHlSm
namespace Go.Proofs.YtdacanghbepjpaaGreatDoor
set_option linter.unusedSimpArgs false
set_option linter.unusedVariables false
set_option maxRecDepth 100000
open Go.RowKit Go.Maps
open Dsk
section
variable {d d' : Dk} {l : List Sg} {s s' k c m : Nat} {h h' : Hl} {x : Dm} {Ls : List Sp.Span}
/-- Whatever is written. -/
theorem NodeC.wr (n : NodeC d h s x Ls c k) (hk : k ≤ 1000) (hc : 120 * (k + 2) ≤ c) (kd a : Nat) (y : Sp.Span) :
    ∃ s' Ls', NodeC (wrP kd a y d h).2.2 (wrP kd a y d h).2.1 s' x Ls' c (k + 1) := by
  unfold wrP
  split
  · by_cases hy : Sp.May y
    · obtain ⟨_, _, s', n', _⟩ := n.app hk hc y hy
      exact ⟨s', _, n'⟩
    · rw [app_bad d h hy]
      exact ⟨s, Ls, n.more⟩
  split
  · obtain ⟨_, e, s', n', _⟩ := n.sync
    rw [e]
    exact ⟨s', _, n'⟩
  split
  · obtain ⟨_, _, s', n', _⟩ := n.rot hk hc
    exact ⟨s', _, n'⟩
  split
  · obtain ⟨_, _, s', n', _⟩ := n.ret (1 + ((a % 4 : Nat) : Int)) (by omega)
    exact ⟨s', _, n'⟩
  · exact ⟨s, Ls, n.more⟩
theorem snd_rest {o : Int} (n : NodeC d h s ⟨o, 0, 0, noB, 0, 0⟩ Ls c k) (hk : k ≤ 1000) (hc : 120 * (k + 2) ≤ c) :
    ∃ d2 x2, stepC 0 d h ⟨o, 0, 0, noB, 0, 0⟩ = ((x2.out, 0), x2, d2) ∧ NodeC d2 h s x2 Ls c (k + 1) ∧ x2.next = (firstOf h.l : Nat) ∧ x2.gap = (firstOf h.l : Nat) ∧ x2.sent = 0 ∧
      ((sureOf h.l s ≤ firstOf h.l ∧ x2.out = noB) ∨ ∃ pg, firstOf h.l < sureOf h.l s ∧ x2.out = batchB o (firstOf h.l : Nat) pg ∧ pg.length = min 8 (sureOf h.l s - firstOf h.l) ∧ (∀ y ∈ pg, Sp.May y) ∧ readP d2 h (firstOf h.l : Nat) 8 = (pg, ((firstOf h.l : Nat) : Int) + pg.length, 0)) := by
  obtain ⟨u1, u2, d2, x2, t1, n2, t2, t3, t4, t5, t6⟩ := n.step0 hk hc rfl 0 (firstOf h.l) (by simp)
  refine ⟨d2, x2, t1, n2, t3, by rw [t4]; simp, t5, ?_⟩
  rcases t6 with ⟨e1, e2, _⟩ | ⟨e1, e2, _, e4⟩
  · exact .inl ⟨e1, e2⟩
  · refine .inr ⟨_, e1, e2, e4.len, e4.may, ?_⟩
    have hp := n2.node.run.read (n := firstOf h.l) (m := 8) (Nat.le_refl _) u2
    have h8 : ((8 : Nat) : Int) = 8 := rfl
    rw [h8] at hp
    exact hp
end
set_option maxHeartbeats 16000000 in
theorem walkDaemonSends (xs : Value × List DAct) (ag : Int) (w : World) (h1 : DActsIn w xs) (h2 : 0 ≤ ag ∧ ag ≤ 255) (he : LEnv w) :
    Calls Tryz.prog 5 #[xs.1, .int .u8 ag] w fun e w' => e = .returned (.bool true) ∧ Below w.heap.size w w' := by
  obtain ⟨v, l⟩ := xs
  obtain ⟨hrd, hlm⟩ := h1
  simp only at hrd hlm ⊢
  have HE := Lib.hid he
  obtain ⟨n, hn⟩ : ∃ n, n = l.length := ⟨_, rfl⟩
  have HBY := Lib.hid (beyond_acts v l w hrd hlm 60 (by decide))
  have HRD := Lib.hid (fun (W : World) (hW : Below w.heap.size w W) => hrd.below hW)
  have hc60 : ((60 : Nat) : Int) = 60 := rfl
  rw [hc60, ← hn] at HBY
  obtain ⟨x0, c0, hv, _⟩ := id hrd
  rw [← hn] at hv hlm
  subst hv
  have HN := Lib.hid hn
  unfold maxLen at hlm
  obtain ⟨m, hm⟩ : ∃ m : Nat, (m : Int) = ag.tmod 5 := ⟨(ag.tmod 5).toNat, by rw [Int.tmod_eq_emod_of_nonneg h2.1]; omega⟩
  have hm4 : m ≤ 4 := by rw [Int.tmod_eq_emod_of_nonneg h2.1] at hm; omega
  have hm5 : ag.tmod 5 = m := hm.symm
  have hwa : IntKind.i64.wrap ag = ag := by rw [IntKind.wrap_i64]; omega
  clear hm hn hrd he hc60
  go_enter Tryz.func5, Tryz.ntmps5
  go_wp2_with fail
  refine HBY.out.mono ?_
  rintro e w1 ⟨⟨b, rfl, hb60⟩, hb1⟩
  have HB1 := Lib.hid hb1
  clear hb1 HBY
  by_cases hb : b = 1
  case pos =>
    subst hb
    go_wp2_with fail
    refine (lives_any _ (HE.out.below HB1.out)).mono ?_
    rintro e w2 ⟨rfl, hb2⟩
    have HB2 := Lib.hid (HB1.out.trans (hb2.mono HB1.out.size))
    clear hb2
    go_wp2_with fail
    go_ret
    exact ⟨rfl, HB2.out⟩
  case neg =>
  have hbb : (b == 1) = false := beq_eq_false_iff_ne.2 hb
  have hn60 := hb60 hb
  have HBG := Lib.hid (begun_any 3 (by decide) w1)
  have HE1 := Lib.hid (HE.out.below HB1.out)
  clear hb60 hb
  go_wp2_with fail
  refine HBG.out.mono ?_
  rintro e w2 ⟨jn, rfl, bd, j, jx, P, hnd⟩
  have HND := Lib.hid hnd.ne
  clear hnd HBG
  go_wp2_with fail
  go_loopg [6] n (fun g v6 wr => ∃ (k : Nat), v6 = .int .i64 k ∧ k ≤ n ∧ g = n - k ∧ ∃ d h s Ls, NE w1 wr NoK jn bd j jx d h ⟨3, 0, 0, noB, 0, 0⟩ ∧ NodeC d h s ⟨3, 0, 0, noB, 0, 0⟩ Ls 1048576 k)
  case atStart => exact ⟨0, rfl, by omega, by omega, _, _, 0, [], HND.out, NodeC.new 3 (by decide) (by decide) (by decide)⟩
  case round =>
    obtain ⟨k, rfl, hk, rfl, d, h, s, Ls, nd, nc⟩ := hrel
    by_cases hlt : k < n
    case pos =>
      have hlt2 : (k : Int) < n := by omega
      obtain ⟨x9, c9, hv9, hel⟩ := HRD.out wr (HB1.out.trans (nd.base.mono HB1.out.size))
      rw [← HN.out] at hv9
      obtain ⟨rfl, rfl⟩ : x0 = x9 ∧ c0 = c9 := by injection hv9 with e1 e2 e3; exact ⟨e1, e3⟩
      obtain ⟨ho, bb, off, rfl, _, hcc⟩ := hel k (by rw [← HN.out]; exact hlt)
      obtain ⟨a, ha⟩ : ∃ a, a = l[k]'(by rw [← HN.out]; exact hlt) := ⟨_, rfl⟩
      rw [← ha] at ho hcc
      obtain ⟨k0, k1, k2, k3, k4, k5, k6, k7, k8, k9, k10, k11, k12, k13⟩ := dact_load (b := bb) (off := off + k * 14) (a := a) (fun i hi => by rw [Nat.add_assoc]; exact hcc i hi)
      obtain ⟨s', Ls', n'⟩ := nc.wr (by omega) (by omega) a.kind a.n a.s
      have hwr := nd.writes HE1.out (nc.few (by omega) (by omega)) a ho
      obtain ⟨R, hR⟩ : ∃ R, R = wrP a.kind a.n a.s d h := ⟨_, rfl⟩
      rw [← hR] at n' hwr
      obtain ⟨r9, h', d'⟩ := R
      have HNC := Lib.hid n'
      have HWR := Lib.hid hwr
      clear hv9 hel hcc ha ho nd nc n' hwr hR
      obtain ⟨kd, ⟨zt, zi, zp, zs, zh, za, zd, zn⟩, an, aa, af, ab, adt⟩ := a
      unfold dactC at HWR
      simp only at *
      go_wp2_with fail
      refine HWR.out.mono ?_
      rintro e w4 ⟨rfl, hnd4, _⟩
      have HN4 := Lib.hid hnd4
      clear hnd4 HWR k0 k1 k2 k3 k4 k5 k6 k7 k8 k9 k10 k11 k12 k13
      go_wp2_with fail
      go_roundg (n - (k + 1))
      case measure => omega
      case rel => exact ⟨k + 1, by go_num, by omega, rfl, d', h', s', Ls', HN4.out, HNC.out⟩
    case neg =>
      obtain rfl : k = n := by omega
      have hge : ¬ (k : Int) < k := by omega
      clear hlt hk
      obtain ⟨d2, x2, e1, n2, e2, e3, e4, e5⟩ := snd_rest nc (by omega) (by omega)
      have HS0 := Lib.hid (nd.step HE1.out (nc.few (by omega) (by omega)) 0 ⟨by decide, by decide⟩ e1)
      have hle := nc.le
      have hnx := nc.next
      have hmn := nc.many
      obtain ⟨F, hF⟩ : ∃ F, F = firstOf h.l := ⟨_, rfl⟩
      obtain ⟨U, hU⟩ : ∃ U, U = sureOf h.l s := ⟨_, rfl⟩
      rw [← hF] at e2 e3 e5 hle
      rw [← hU] at e5 hle
      have HF2 := Lib.hid (n2.few (by omega) (by omega))
      have HN2 := Lib.hid n2
      have HFF := Lib.hid hF
      have HUU := Lib.hid hU
      have hbF : F ≤ 1000 := by omega
      have hbU : U ≤ 1000 := by omega
      obtain ⟨xh, xn, xg, xo, xm, xse⟩ := x2
      simp only at e2 e3 e4 e5
      subst e2 e3 e4
      have HE5 := Lib.hid e5
      obtain ⟨c0', c1, c2⟩ := nd.cells
      clear nd nc e1 n2 e5 hle hnx hmn hF hU
      go_wp2_with fail
      refine HS0.out.mono ?_
      rintro e v1 ⟨rfl, hn1, _⟩
      try simp only at hn1
      have HCU := Lib.hid hn1.cursor
      unfold curV at HCU
      simp only at HCU
      have HN1 := Lib.hid hn1
      obtain ⟨c0', c1, c2⟩ := hn1.cells
      clear hn1 HS0
      go_wp2_with fail
      refine HCU.out.mono ?_
      rintro e v2 ⟨rfl, hb2⟩
      obtain ⟨qc, hqc⟩ : ∃ q, q = v2.heap.size := ⟨_, rfl⟩
      obtain ⟨v3, hv3⟩ : ∃ y, y = v2.alloc (.cells #[.int .i64 F, .int .i64 F] 30 (0, 0)) := ⟨_, rfl⟩
      have hb3 : Below v1.heap.size v1 v3 := by rw [hv3]; exact hb2.alloc hb2.size _
      have hk3 : Blk v3 qc 30 #[.int .i64 F, .int .i64 F] := by rw [hv3, hqc]; exact Blk.alloc_new v2 _ _
      have HV3 := Lib.hid hv3
      have HQC := Lib.hid hqc
      have HN3 := Lib.hid (HN1.out.below hb3)
      have HK3 := Lib.hid hk3
      obtain ⟨v4, hv4⟩ : ∃ y, y = v3.drew := ⟨_, rfl⟩
      have HB4 := Lib.hid (show Below v3.heap.size v3 v4 by rw [hv4]; exact (Below.refl _ _).drew)
      have HTT := Lib.hid (fun (W : World) (hW : Below v3.heap.size v3 W) => show W.cell? ⟨jn, 1, none⟩ = some (.pointer (some ⟨j, 0, none⟩)) ∧ W.cell? ⟨jn, 2, none⟩ = some (.pointer (some ⟨jx, 0, none⟩)) ∧ W.cell? ⟨qc, 0, none⟩ = some (.int .i64 F) ∧ W.cell? ⟨qc, 1, none⟩ = some (.int .i64 F) from ⟨(HN3.out.below hW).cells.2.1, (HN3.out.below hW).cells.2.2, (HK3.out.below hW).cell 0, (HK3.out.below hW).cell 1⟩)
      have hT := HTT.out v4 HB4.out
      have hS : True := trivial
      clear HCU hb2 hb3 hk3 hv3 hqc HN1
      go_wp2_with fail
      rw [← HV3.out, ← HQC.out]
      refine wp_region_two (T := fun W => W.cell? ⟨jn, 1, none⟩ = some (.pointer (some ⟨j, 0, none⟩)) ∧ W.cell? ⟨jn, 2, none⟩ = some (.pointer (some ⟨jx, 0, none⟩)) ∧ W.cell? ⟨qc, 0, none⟩ = some (.int .i64 F) ∧ W.cell? ⟨qc, 1, none⟩ = some (.int .i64 F)) (S := fun _ => True) (n := 99) (by kernel_rfl) ?_
      rw [← hv4]
      clear hv4
      refine tk 0 52 hT hS ?_
      refine tk 1 53 hT hS ?_
      try simp only [Act.put, List.setIfInBounds_toArray, scons]
      refine tk 2 54 hT hS ?_
      refine tk 3 55 hT hS ?_
      try simp only [Act.put, List.setIfInBounds_toArray, scons]
      refine tk 4 56 hT hS ?_
      refine tk 5 57 hT hS ?_
      try simp only [Act.put, List.setIfInBounds_toArray, scons]
      refine tk 6 58 hT hS ?_
      refine tk 7 59 hT hS ?_
      try simp only [Act.put, List.setIfInBounds_toArray, scons]
      refine tk 8 60 hT hS ?_
      try simp only [Act.put, List.setIfInBounds_toArray, scons]
      have HFI := Lib.hid ((HN3.out.below HB4.out).first HF2.out)
      rw [← HFF.out] at HFI
      refine two_one 9 rfl (by kernel_rfl) ?_
      intro K hK
      go_simp
      refine HFI.out.mono ?_
      rintro e v5 ⟨rfl, hb5⟩
      have HB5 := Lib.hid (HB4.out.trans (hb5.mono HB4.out.size))
      have hT5 := HTT.out v5 HB5.out
      refine hK.out _ _ hT5 (fun _ _ => hS) ?_
      clear hK K
      try simp only [Act.put, List.setIfInBounds_toArray, scons]
      clear hb5 hT HFI
      have hT := hT5
      clear hT5
      refine tk 10 62 hT hS ?_
      refine tk 11 63 hT hS ?_
      try simp only [Act.put, List.setIfInBounds_toArray, scons]
      refine tk 12 64 hT hS ?_
      refine tk 13 65 hT hS ?_
      try simp only [Act.put, List.setIfInBounds_toArray, scons]
      refine tk 14 66 hT hS ?_
      refine tk 15 67 hT hS ?_
      try simp only [Act.put, List.setIfInBounds_toArray, scons]
      refine tk 16 68 hT hS ?_
      refine tk 17 69 hT hS ?_
      try simp only [Act.put, List.setIfInBounds_toArray, scons]
      refine tk 18 70 hT hS ?_
      try simp only [Act.put, List.setIfInBounds_toArray, scons]
      refine two_done (by kernel_rfl) ?_ _
      clear hT
      have HSU := Lib.hid (fun (W : World) (hW : Below v3.heap.size v3 W) => (HN3.out.below hW).sure HE1.out HF2.out)
      rw [← HUU.out] at HSU
      rcases HE5.out with ⟨hUF, hxo⟩ | ⟨pg, hFU, hxo, hpl, hpm, hrp⟩
      case inl =>
        have hem : xo.toList.isEmpty = true := by rw [hxo]; exact noB_is
        have hFU : (F : Int) ≥ U := by omega
        have hFU2 : ¬ (F : Int) < U := by omega
        obtain ⟨v6, hv6⟩ : ∃ y, y = v5.drew := ⟨_, rfl⟩
        have HB6 := Lib.hid (show Below v3.heap.size v3 v6 by rw [hv6]; exact HB5.out.drew)
        have hT := HTT.out v6 HB6.out
        have HWX := Lib.hid (fun (W : World) (hW : Below v3.heap.size v3 W) => (HN3.out.below hW).waiting)
        simp only at HWX
        rw [hem] at HWX
        clear hUF hxo HE5
        go_wp2_with fail
        refine wp_region_two (T := fun W => W.cell? ⟨jn, 1, none⟩ = some (.pointer (some ⟨j, 0, none⟩)) ∧ W.cell? ⟨jn, 2, none⟩ = some (.pointer (some ⟨jx, 0, none⟩)) ∧ W.cell? ⟨qc, 0, none⟩ = some (.int .i64 F) ∧ W.cell? ⟨qc, 1, none⟩ = some (.int .i64 F)) (S := fun _ => True) (n := 99) (by kernel_rfl) ?_
        rw [← hv6]
        clear hv6
        refine tk 0 73 hT hS ?_
        refine tk 1 74 hT hS ?_
        try simp only [Act.put, List.setIfInBounds_toArray, scons]
        refine tk 2 75 hT hS ?_
        refine tk 3 76 hT hS ?_
        try simp only [Act.put, List.setIfInBounds_toArray, scons]
        refine tk 4 77 hT hS ?_
        refine tk 5 78 hT hS ?_
        try simp only [Act.put, List.setIfInBounds_toArray, scons]
        refine two_one 6 rfl (by kernel_rfl) ?_
        intro K hK
        go_simp
        refine (HSU.out v6 HB6.out).mono ?_
        rintro e v7 ⟨rfl, hb7⟩
        have HB7 := Lib.hid (HB6.out.trans (hb7.mono HB6.out.size))
        have hT7 := HTT.out v7 HB7.out
        refine hK.out _ _ hT7 (fun _ _ => hS) ?_
        clear hK K
        try simp only [Act.put, List.setIfInBounds_toArray, scons]
        clear hb7 hT HSU
        have hT := hT7
        clear hT7
        refine tk 7 80 hT hS ?_
        refine tk 8 81 hT hS ?_
        try simp only [Act.put, List.setIfInBounds_toArray, scons]
        refine tk 9 82 hT hS ?_
        refine tk 10 83 hT hS ?_
        try simp only [Act.put, List.setIfInBounds_toArray, scons]
        refine tk 11 84 hT hS ?_
        refine tk 12 85 hT hS ?_
        try simp only [Act.put, List.setIfInBounds_toArray, scons]
        refine two_one 13 rfl (by kernel_rfl) ?_
        intro K hK
        go_simp
        refine (HWX.out v7 HB7.out).mono ?_
        rintro e v8 ⟨rfl, rfl⟩
        refine hK.out _ _ hT (fun _ _ => hS) ?_
        clear hK K
        try simp only [Act.put, List.setIfInBounds_toArray, scons]
        clear HWX
        refine tk 14 87 hT hS ?_
        refine tk 15 88 hT hS ?_
        try simp only [Act.put, List.setIfInBounds_toArray, scons]
        refine tk 16 89 hT hS ?_
        try simp only [Act.put, List.setIfInBounds_toArray, scons]
        have HL := Lib.hid (HN3.out.below HB7.out).base
        refine two_one 17 rfl (by kernel_rfl) ?_
        intro K hK
        go_simp
        refine (lives_any _ (HE1.out.below HL.out)).mono ?_
        rintro e v9 ⟨rfl, hb9⟩
        have HL9 := Lib.hid (HL.out.trans (hb9.mono HL.out.size))
        have hT9 := HTT.out v9 (HB7.out.trans (hb9.mono HB7.out.size))
        refine hK.out _ _ hT9 (fun _ _ => hS) ?_
        clear hK K
        try simp only [Act.put, List.setIfInBounds_toArray, scons]
        clear hT hb9 HTT
        have hT := hT9
        clear hT9
        refine tk 18 91 hT hS ?_
        refine tk 19 4 hT hS ?_
        try simp only [Act.put, List.setIfInBounds_toArray, scons]
        refine two_done (by kernel_rfl) ?_ _
        go_wp2_with fail
        go_ret
        exact ⟨rfl, HB1.out.trans (HL9.out.mono HB1.out.size)⟩
      case inr =>
        have hem : xo.toList.isEmpty = false := by
          cases hq : xo.toList.isEmpty with
          | true => exact absurd (hxo ▸ noB_of hq) (batchB_ne _ _ _)
          | false => rfl
        have hpl1 : 1 ≤ pg.length ∧ pg.length ≤ 8 := by omega
        have HDB := Lib.hid (decBatch_ok 3 F pg v5 (by decide) ⟨by omega, by omega⟩ ⟨by omega, by omega⟩ hpl1 hpm)
        rw [← hxo] at HDB
        have hmin : (min 8 ((U : Int) - F) : Int) = pg.length := by omega
        obtain ⟨pl, hplE⟩ : ∃ pl, pl = pg.length := ⟨_, rfl⟩
        rw [← hplE] at hmin hpl1 hrp
        have HPL := Lib.hid hplE
        have HRP := Lib.hid hrp
        have hpb : pl ≤ 8 := hpl1.2
        have hws : IntKind.i64.wrap ((U : Int) - F) = U - F := by rw [IntKind.wrap_i64]; omega
        have hwf : IntKind.i64.wrap ((F : Int) + pl) = F + pl := by rw [IntKind.wrap_i64]; omega
        have HXO := Lib.hid hxo
        clear hxo hpl hpm hrp hplE HE5 hpl1 hFU
        go_wp2_with fail
        refine HDB.out.mono ?_
        rintro e v6 ⟨sv, rfl, hsv, hb6⟩
        obtain ⟨sx, sc, hsx⟩ := OwnRow.shape hsv
        rw [← HPL.out] at hsx
        subst hsx
        obtain ⟨qb, hqb⟩ : ∃ q, q = v6.heap.size := ⟨_, rfl⟩
        obtain ⟨v7, hv7⟩ : ∃ y, y = v6.alloc (.cells #[.int .i64 3, .int .i64 F, .slice sx pl sc] 63 (0, 0)) := ⟨_, rfl⟩
        have hb7 : Below v6.heap.size v6 v7 := by rw [hv7]; exact (Below.refl _ _).alloc (Nat.le_refl _) _
        have hk7 : Blk v7 qb 63 #[.int .i64 3, .int .i64 F, .slice sx pl sc] := by rw [hv7, hqb]; exact Blk.alloc_new v6 _ _
        have HB7 := Lib.hid (show Below v3.heap.size v3 v7 from (HB5.out.trans (hb6.mono HB5.out.size)).trans (hb7.mono (Nat.le_trans HB5.out.size hb6.size)))
        have HSV := Lib.hid (show OwnSp v7 v5.heap.size (.slice sx pl sc) pg from OwnRow.below hsv hb7)
        have HK7 := Lib.hid hk7
        have HV7 := Lib.hid hv7
        have HQB := Lib.hid hqb
        obtain ⟨v8, hv8⟩ : ∃ y, y = v7.drew := ⟨_, rfl⟩
        have HB8 := Lib.hid (show Below v7.heap.size v7 v8 by rw [hv8]; exact (Below.refl _ _).drew)
        have HT2 := Lib.hid (fun (W : World) (hW : Below v7.heap.size v7 W) => show W.cell? ⟨jn, 1, none⟩ = some (.pointer (some ⟨j, 0, none⟩)) ∧ W.cell? ⟨jn, 2, none⟩ = some (.pointer (some ⟨jx, 0, none⟩)) ∧ W.cell? ⟨qc, 0, none⟩ = some (.int .i64 F) ∧ W.cell? ⟨qc, 1, none⟩ = some (.int .i64 F) ∧ W.cell? ⟨qb, 0, none⟩ = some (.int .i64 3) ∧ W.cell? ⟨qb, 1, none⟩ = some (.int .i64 F) ∧ W.cell? ⟨qb, 2, none⟩ = some (.slice sx pl sc) from
          ⟨(HTT.out W (HB7.out.trans (hW.mono HB7.out.size))).1, (HTT.out W (HB7.out.trans (hW.mono HB7.out.size))).2.1, (HTT.out W (HB7.out.trans (hW.mono HB7.out.size))).2.2.1, (HTT.out W (HB7.out.trans (hW.mono HB7.out.size))).2.2.2, (HK7.out.below hW).cell 0, (HK7.out.below hW).cell 1, (HK7.out.below hW).cell 2⟩)
        have HRE := Lib.hid ((HN3.out.below (HB7.out.trans (HB8.out.mono HB7.out.size))).read HE1.out HF2.out F 8)
        unfold ReadPost at HRE
        rw [HRP.out] at HRE
        have hT := HT2.out v8 HB8.out
        clear HDB hsv hb6 hb7 hk7 hv7 hqb HTT HK7
        go_wp2_with fail
        rw [← HV7.out, ← HQB.out]
        refine wp_region_two (T := fun W => W.cell? ⟨jn, 1, none⟩ = some (.pointer (some ⟨j, 0, none⟩)) ∧ W.cell? ⟨jn, 2, none⟩ = some (.pointer (some ⟨jx, 0, none⟩)) ∧ W.cell? ⟨qc, 0, none⟩ = some (.int .i64 F) ∧ W.cell? ⟨qc, 1, none⟩ = some (.int .i64 F) ∧ W.cell? ⟨qb, 0, none⟩ = some (.int .i64 3) ∧ W.cell? ⟨qb, 1, none⟩ = some (.int .i64 F) ∧ W.cell? ⟨qb, 2, none⟩ = some (.slice sx pl sc)) (S := fun _ => True) (n := 99) (by kernel_rfl) ?_
        rw [← hv8]
        clear hv8
        refine tk 0 98 hT hS ?_
        refine tk 1 99 hT hS ?_
        try simp only [Act.put, List.setIfInBounds_toArray, scons]
        refine tk 2 100 hT hS ?_
        refine tk 3 101 hT hS ?_
        try simp only [Act.put, List.setIfInBounds_toArray, scons]
        refine tk 4 102 hT hS ?_
        refine tk 5 103 hT hS ?_
        try simp only [Act.put, List.setIfInBounds_toArray, scons]
        refine two_one 6 rfl (by kernel_rfl) ?_
        intro K hK
        go_simp
        refine HRE.out.mono ?_
        rintro e v9 ⟨u, rfl, hu, hb9⟩
        try simp only at hu
        obtain ⟨ux, uc, hux⟩ := OwnRow.shape hu
        rw [← HPL.out] at hux
        subst hux
        have HB9 := Lib.hid (HB8.out.trans (hb9.mono HB8.out.size))
        have hT9 := HT2.out v9 HB9.out
        have HU := Lib.hid hu
        refine hK.out _ _ hT9 (fun _ _ => hS) ?_
        clear hK K
        try simp only [Act.put, List.setIfInBounds_toArray, scons]
        clear hb9 hu hT HRE
        have hT := hT9
        clear hT9
        refine tk 7 97 hT hS ?_
        refine tk 8 105 hT hS ?_
        try simp only [Act.put, List.setIfInBounds_toArray, scons]
        refine tk 9 106 hT hS ?_
        refine tk 10 107 hT hS ?_
        try simp only [Act.put, List.setIfInBounds_toArray, scons]
        refine tk 11 12 hT hS ?_
        refine tk 12 13 hT hS ?_
        try simp only [Act.put, List.setIfInBounds_toArray, scons]
        refine tk 13 14 hT hS ?_
        try simp only [Act.put, List.setIfInBounds_toArray, scons]
        refine two_done (by kernel_rfl) ?_ _
        clear hT
        obtain ⟨v10, hv10⟩ : ∃ y, y = v9.drew := ⟨_, rfl⟩
        have HB10 := Lib.hid (show Below v7.heap.size v7 v10 by rw [hv10]; exact HB9.out.drew)
        have HUA := Lib.hid (show OwnSp v10 v8.heap.size (.slice ux pl uc) pg from OwnRow.below HU.out (by rw [hv10]; exact (Below.refl _ _).drew))
        have HSA := Lib.hid (show OwnSp v10 v5.heap.size (.slice sx pl sc) pg from OwnRow.below HSV.out HB10.out)
        have hT := HT2.out v10 HB10.out
        clear HU HSV
        go_wp2_with fail
        refine wp_region_two (T := fun W => W.cell? ⟨jn, 1, none⟩ = some (.pointer (some ⟨j, 0, none⟩)) ∧ W.cell? ⟨jn, 2, none⟩ = some (.pointer (some ⟨jx, 0, none⟩)) ∧ W.cell? ⟨qc, 0, none⟩ = some (.int .i64 F) ∧ W.cell? ⟨qc, 1, none⟩ = some (.int .i64 F) ∧ W.cell? ⟨qb, 0, none⟩ = some (.int .i64 3) ∧ W.cell? ⟨qb, 1, none⟩ = some (.int .i64 F) ∧ W.cell? ⟨qb, 2, none⟩ = some (.slice sx pl sc)) (S := fun _ => True) (n := 99) (by kernel_rfl) ?_
        rw [← hv10]
        clear hv10
        refine tk 0 108 hT hS ?_
        refine tk 1 109 hT hS ?_
        try simp only [Act.put, List.setIfInBounds_toArray, scons]
        refine tk 2 110 hT hS ?_
        refine tk 3 111 hT hS ?_
        try simp only [Act.put, List.setIfInBounds_toArray, scons]
        refine tk 4 112 hT hS ?_
        refine tk 5 113 hT hS ?_
        try simp only [Act.put, List.setIfInBounds_toArray, scons]
        refine tk 6 114 hT hS ?_
        refine tk 7 115 hT hS ?_
        try simp only [Act.put, List.setIfInBounds_toArray, scons]
        refine tk 8 116 hT hS ?_
        refine tk 9 117 hT hS ?_
        try simp only [Act.put, List.setIfInBounds_toArray, scons]
        refine tk 10 118 hT hS ?_
        refine tk 11 119 hT hS ?_
        try simp only [Act.put, List.setIfInBounds_toArray, scons]
        refine tk 12 120 hT hS ?_
        refine tk 13 121 hT hS ?_
        try simp only [Act.put, List.setIfInBounds_toArray, scons]
        refine tk 14 122 hT hS ?_
        refine tk 15 123 hT hS ?_
        try simp only [Act.put, List.setIfInBounds_toArray, scons]
        refine tk 16 124 hT hS ?_
        refine tk 17 125 hT hS ?_
        try simp only [Act.put, List.setIfInBounds_toArray, scons]
        refine tk 18 126 hT hS ?_
        refine tk 19 127 hT hS ?_
        try simp only [Act.put, List.setIfInBounds_toArray, scons]
        refine tk 20 128 hT hS ?_
        refine tk 21 129 hT hS ?_
        try simp only [Act.put, List.setIfInBounds_toArray, scons]
        refine tk 22 130 hT hS ?_
        refine tk 23 131 hT hS ?_
        try simp only [Act.put, List.setIfInBounds_toArray, scons]
        refine tk 24 132 hT hS ?_
        refine tk 25 133 hT hS ?_
        try simp only [Act.put, List.setIfInBounds_toArray, scons]
        refine tk 26 134 hT hS ?_
        refine tk 27 135 hT hS ?_
        try simp only [Act.put, List.setIfInBounds_toArray, scons]
        refine tk 28 136 hT hS ?_
        refine tk 29 137 hT hS ?_
        try simp only [Act.put, List.setIfInBounds_toArray, scons]
        refine tk 30 138 hT hS ?_
        refine tk 31 139 hT hS ?_
        try simp only [Act.put, List.setIfInBounds_toArray, scons]
        refine tk 32 140 hT hS ?_
        refine tk 34 142 hT hS ?_
        try simp only [Act.put, List.setIfInBounds_toArray, scons]
        refine tk 35 143 hT hS ?_
        try simp only [Act.put, List.setIfInBounds_toArray, scons]
        refine two_one 33 rfl (by kernel_rfl) ?_
        intro K hK
        go_simp
        refine (HSU.out v10 (HB7.out.trans (HB10.out.mono HB7.out.size))).mono ?_
        rintro e v11 ⟨rfl, hb11⟩
        have HB11 := Lib.hid (HB10.out.trans (hb11.mono HB10.out.size))
        have hT11 := HT2.out v11 HB11.out
        have HUB := Lib.hid (show OwnSp v11 v8.heap.size (.slice ux pl uc) pg from OwnRow.below HUA.out hb11)
        have HSB := Lib.hid (show OwnSp v11 v5.heap.size (.slice sx pl sc) pg from OwnRow.below HSA.out hb11)
        refine hK.out _ _ hT11 (fun _ _ => hS) ?_
        clear hK K
        try simp only [Act.put, List.setIfInBounds_toArray, scons]
        clear hb11 hT HSU HUA HSA
        have hT := hT11
        clear hT11
        refine tk 36 144 hT hS ?_
        refine tk 37 145 hT hS ?_
        try simp only [Act.put, List.setIfInBounds_toArray, scons]
        refine tk 38 146 hT hS ?_
        refine tk 39 147 hT hS ?_
        try simp only [Act.put, List.setIfInBounds_toArray, scons]
        refine tk 40 148 hT hS ?_
        refine tk 41 149 hT hS ?_
        try simp only [Act.put, List.setIfInBounds_toArray, scons]
        refine tk 42 150 hT hS ?_
        refine tk 43 151 hT hS ?_
        try simp only [Act.put, List.setIfInBounds_toArray, scons]
        refine tk 44 152 hT hS ?_
        refine tk 45 153 hT hS ?_
        try simp only [Act.put, List.setIfInBounds_toArray, scons]
        refine tk 46 154 hT hS ?_
        refine tk 47 155 hT hS ?_
        try simp only [Act.put, List.setIfInBounds_toArray, scons]
        refine tk 48 156 hT hS ?_
        try simp only [Act.put, List.setIfInBounds_toArray, scons]
        refine two_done (by kernel_rfl) ?_ _
        clear hT
        go_wp2_with fail
        go_loopg [15] pl (fun g v15 wr => ∃ i : Nat, v15 = .int .i64 i ∧ i ≤ pl ∧ g = pl - i ∧ Below v11.heap.size v11 wr)
        case atStart => exact ⟨0, rfl, by omega, by omega, Below.refl _ _⟩
        case round =>
          obtain ⟨i, rfl, hi, rfl, hbw⟩ := hrel
          have HBW := Lib.hid hbw
          clear hbw
          by_cases hlt : i < pl
          case pos =>
            have hlt2 : (i : Int) < pl := by omega
            have hil : i < pg.length := by rw [← HPL.out]; exact hlt
            have hsb := OwnRow.below HSB.out HBW.out
            have hub := OwnRow.below HUB.out HBW.out
            obtain ⟨g1, e1, hg1, _, _, hl1, hcs1⟩ := OwnRow.at_ spRow_len hsb i hil
            have hsx1 : sx = some ⟨g1, 0, none⟩ := by injection hg1
            obtain ⟨g3, e3, hg3, _, _, hl3, hcs3⟩ := OwnRow.at_ spRow_len hub i hil
            have hux1 : ux = some ⟨g3, 0, none⟩ := by injection hg3
            have hT := (HT2.out wr (HB11.out.trans (HBW.out.mono HB11.out.size))).2.2.2.2.2.2
            subst hsx1 hux1
            obtain ⟨xk, hxk⟩ : ∃ xk, xk = pg[i] := ⟨_, rfl⟩
            have d0 := (hcs1 0 _ rfl).1
            have d1 := (hcs1 1 _ rfl).1
            have d2' := (hcs1 2 _ rfl).1
            have d3 := (hcs1 3 _ rfl).1
            have d4 := (hcs1 4 _ rfl).1
            have d5 := (hcs1 5 _ rfl).1
            have d6 := (hcs1 6 _ rfl).1
            have d7 := (hcs1 7 _ rfl).1
            have f0 := (hcs3 0 _ rfl).1
            have f1 := (hcs3 1 _ rfl).1
            have f2 := (hcs3 2 _ rfl).1
            have f3 := (hcs3 3 _ rfl).1
            have f4 := (hcs3 4 _ rfl).1
            have f5 := (hcs3 5 _ rfl).1
            have f6 := (hcs3 6 _ rfl).1
            have f7 := (hcs3 7 _ rfl).1
            rw [Nat.add_zero] at d0 f0
            rw [← hxk] at d0 d1 d2' d3 d4 d5 d6 d7 f0 f1 f2 f3 f4 f5 f6 f7
            have hneq := fun W => span_neq xk xk W
            rw [(spEq_iff xk xk).2 rfl] at hneq
            unfold spV at hneq
            clear hsb hub hg1 hl1 hcs1 hg3 hl3 hcs3 hxk hil
            go_wp2_with fail
            go_quiet (fail)
            have HBN := Lib.hid (HBW.out.trans ((below_drewN wr nq).mono HBW.out.size))
            clear d0 d1 d2' d3 d4 d5 d6 d7 f0 f1 f2 f3 f4 f5 f6 f7 hneq hT
            go_wp2_with fail
            go_roundg (pl - (i + 1))
            case measure => omega
            case rel => exact ⟨i + 1, by go_num, by omega, rfl, HBN.out⟩
          case neg =>
            obtain rfl : i = pl := by omega
            have hge2 : ¬ (i : Int) < i := by omega
            have HNW := Lib.hid (HN3.out.below (HB7.out.trans ((HB11.out.trans (HBW.out.mono HB11.out.size)).mono HB7.out.size)))
            clear hlt hi HSB HUB HT2 HBW HB11 HB10 HB9 HB8 HB7 HB5 HB4 HN3 HK3 HRP
            go_wp2_with fail
            go_loopg [16] m (fun g v16 wx => ∃ q : Nat, v16 = .int .i64 q ∧ 1 ≤ q ∧ q ≤ m + 1 ∧ g = m + 1 - q ∧ ∃ d x, NE w1 wx NoK jn bd j jx d h x ∧ NodeC d h s x Ls 1048576 (k + 1) ∧ xo = x.out ∧ x.sent = 3 * ((q : Int) - 1))
            case atStart => exact ⟨1, rfl, by omega, by omega, by omega, _, _, HNW.out, HN2.out, rfl, rfl⟩
            case round =>
              obtain ⟨q, rfl, hq1, hq, rfl, d5, ⟨x5h, x5n, x5g, x5o, x5m, x5s⟩, nd, nc, hxo5, hse5⟩ := hrel
              simp only at hxo5 hse5
              subst hxo5
              by_cases hlt : q ≤ m
              case pos =>
                have hlt3 : (q : Int) ≤ m := by omega
                have hne5 : xo ≠ noB := by
                  intro e
                  rw [e, noB_is] at hem
                  cases hem
                have a1 := step_again d5 h ⟨x5h, x5n, x5g, xo, x5m, x5s⟩ ((q : Int) * 3) nc.node.off hne5
                rw [if_neg (by show ¬ (q : Int) * 3 - x5s < 3; omega)] at a1
                have n5 := nc.sent ((q : Int) * 3)
                have a2 := step_again d5 h ⟨x5h, x5n, x5g, xo, x5m, (q : Int) * 3⟩ ((q : Int) * 3 + 1) nc.node.off hne5
                rw [if_pos (by show (q : Int) * 3 + 1 - (q : Int) * 3 < 3; omega)] at a2
                have HS1 := Lib.hid (nd.step HE1.out (nc.few (by omega) (by omega)) ((q : Int) * 3) ⟨by omega, by show _ ≤ x5s ∧ x5s ≤ _; omega⟩ a1)
                have HF5 := Lib.hid (n5.few (by omega) (by omega))
                have HA2 := Lib.hid a2
                have HN5 := Lib.hid n5
                obtain ⟨c0'', c1', c2'⟩ := nd.cells
                clear nd nc hse5 a1 n5 a2 hne5
                go_wp2_with fail
                refine HS1.out.mono ?_
                rintro e z1 ⟨rfl, hz1, _⟩
                try simp only at hz1
                have HS2 := Lib.hid (hz1.step HE1.out HF5.out ((q : Int) * 3 + 1) ⟨by omega, by show _ ≤ (q : Int) * 3 ∧ (q : Int) * 3 ≤ _; omega⟩ HA2.out)
                obtain ⟨c0'', c1', c2'⟩ := hz1.cells
                clear hz1 HS1 HA2
                go_wp2_with fail
                refine HS2.out.mono ?_
                rintro e z2 ⟨rfl, hz2, _⟩
                try simp only at hz2
                have HZ2 := Lib.hid hz2
                have hno : noB.toList.isEmpty = true := noB_is
                have hxx : (xo.toList == xo.toList) = true := by simp
                clear hz2 HS2 c0'' c1' c2'
                go_wp2_with fail
                go_roundg (m + 1 - (q + 1))
                case measure => omega
                case rel => exact ⟨q + 1, by go_num, by omega, by omega, rfl, d5, _, HZ2.out, HN5.out, rfl, by show (q : Int) * 3 = _; omega⟩
              case neg =>
                obtain rfl : q = m + 1 := by omega
                have hge3 : ¬ (((m + 1 : Nat) : Int)) ≤ m := by omega
                have HL := Lib.hid nd.base
                clear nd nc hse5 hlt
                go_wp2_with fail
                refine (lives_any _ (HE1.out.below HL.out)).mono ?_
                rintro e z1 ⟨rfl, hz1⟩
                have HL1 := Lib.hid (HL.out.trans (hz1.mono HL.out.size))
                clear hz1
                go_wp2_with fail
                go_ret
                exact ⟨rfl, HB1.out.trans (HL1.out.mono HB1.out.size)⟩
end Go.Proofs.YtdacanghbepjpaaGreatDoor

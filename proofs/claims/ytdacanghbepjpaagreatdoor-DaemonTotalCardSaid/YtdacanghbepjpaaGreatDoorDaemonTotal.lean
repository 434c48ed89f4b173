/- Whatever bytes come, they are an answer's, or refused; no more is changed by them than by the answer that they are: walked. -/
import Derived.Test.YtdacanghbepjpaaGreatDoorDmH
import Derived.Test.YtdacanghbepjpaaGreatDoorDmTab
namespace Go.Proofs.YtdacanghbepjpaaGreatDoor
set_option linter.unusedSimpArgs false
set_option linter.unusedVariables false
set_option maxRecDepth 100000
open Go.RowKit Go.Maps
open Dsk
section
variable {d d' : Dk} {l : List Sg} {s s' k c m : Nat} {h h' : Hl} {x : Dm} {Ls : List Sp.Span}
/-- The example of the law, plainly. -/
theorem tot_rest (n : NodeC d h s ⟨2, 0, 0, noB, 0, 0⟩ Ls 1048576 m) (hL : Ls.length = m) (hm : m ≤ 7) (hf : firstOf h.l = 0) :
    ∃ d1 s1 d2 x2, (syncP d h).2.1 = h ∧ (syncP d h).2.2 = d1 ∧ NodeC d1 h s1 ⟨2, 0, 0, noB, 0, 0⟩ Ls 1048576 (m + 1) ∧
      stepC 0 d1 h ⟨2, 0, 0, noB, 0, 0⟩ = ((x2.out, 0), x2, d2) ∧ NodeC d2 h s1 x2 Ls 1048576 (m + 2) ∧ x2.host = 2 ∧ x2.next = 0 ∧ x2.gap = 0 ∧ x2.many = m ∧ ((m = 0 ∧ x2.out = noB) ∨ (m ≠ 0 ∧ x2.out ≠ noB)) := by
  obtain ⟨_, e2, s1, n1, su1⟩ := n.sync
  obtain ⟨_, _, d2, x2, t1, n2, t2, t3, t4, t5, t6⟩ := n1.step0 (by omega) (by omega) rfl 0 0 (by rw [hf]; rfl)
  rw [su1, hL] at t6
  refine ⟨_, s1, d2, x2, e2, rfl, n1, t1, n2, t2, t3, by rw [t4]; rfl, ?_, ?_⟩
  · rcases t6 with ⟨t6, _, t7⟩ | ⟨_, _, t7, t8⟩
    · rw [t7]; omega
    · rw [t7, t8.len]; omega
  · rcases t6 with ⟨t6, t7, _⟩ | ⟨t6, t7, _⟩
    · exact .inl ⟨by omega, t7⟩
    · exact .inr ⟨by omega, by rw [t7]; exact batchB_ne _ _ _⟩
end
set_option maxHeartbeats 16000000 in
theorem walkDaemonTotal (data : ByteArray) (mn : Int) (w : World) (h1 : data.size ≤ maxLen) (h2 : 0 ≤ mn ∧ mn ≤ 255) (he : LEnv w) :
    Calls Tryz.prog 4 #[.string data, .int .u8 mn] w fun e w' => e = .returned (.bool true) ∧ Below w.heap.size w w' := by
  have HE := Lib.hid he
  have HDS := Lib.hid h1
  unfold maxLen at h1
  clear he
  by_cases hlen : 200 < data.size
  case pos =>
    have hl2 : (200 : Int) < data.size := by omega
    go_enter Tryz.func4, Tryz.ntmps4
    go_wp2_with fail
    refine (lives_any w HE.out).mono ?_
    rintro e w1 ⟨rfl, hb⟩
    have HB := Lib.hid hb
    clear hb
    go_wp2_with fail
    go_ret
    exact ⟨rfl, HB.out⟩
  case neg =>
  have hl2 : ¬ (200 : Int) < data.size := by omega
  obtain ⟨m, hm⟩ : ∃ m : Nat, (m : Int) = mn.tmod 8 := ⟨(mn.tmod 8).toNat, by rw [Int.tmod_eq_emod_of_nonneg h2.1]; omega⟩
  have hm7 : m ≤ 7 := by rw [Int.tmod_eq_emod_of_nonneg h2.1] at hm; omega
  have hm8 : mn.tmod 8 = m := hm.symm
  have hwa : IntKind.i64.wrap mn = mn := by rw [IntKind.wrap_i64]; omega
  have HBG := Lib.hid (begun_any 2 (by decide) w)
  clear hm hlen
  go_enter Tryz.func4, Tryz.ntmps4
  go_wp2_with fail
  refine HBG.out.mono ?_
  rintro e w1 ⟨jn, rfl, bd, j, jx, P, hnd⟩
  have HND := Lib.hid hnd.ne
  clear hnd HBG
  go_wp2_with fail
  go_loopg [6] m (fun g v6 wr => ∃ (k : Nat), v6 = .int .i64 k ∧ k ≤ m ∧ g = m - k ∧ ∃ d h s Ls, NE w wr NoK jn bd j jx d h ⟨2, 0, 0, noB, 0, 0⟩ ∧ NodeC d h s ⟨2, 0, 0, noB, 0, 0⟩ Ls 1048576 k ∧ Ls.length = k ∧ firstOf h.l = 0)
  case atStart => exact ⟨0, rfl, by omega, by omega, _, _, 0, [], HND.out, NodeC.new 2 (by decide) (by decide) (by decide), rfl, rfl⟩
  case round =>
    obtain ⟨k, rfl, hk, rfl, d, h, s, Ls, nd, nc, hl, hf⟩ := hrel
    by_cases hlt : k < m
    case pos =>
      have hlt2 : (k : Int) < m := by omega
      have hwk : IntKind.i64.wrap (1 + (k : Int)) = 1 + (k : Int) := by rw [IntKind.wrap_i64]; omega
      obtain ⟨_, z2, s', n', _⟩ := nc.app (by omega) (by omega) (spanD (1 + (k : Int))) (spanD_may (by omega))
      obtain ⟨R, hR⟩ : ∃ R, R = appP d h (spanD (1 + (k : Int))) := ⟨_, rfl⟩
      have HAP := Lib.hid (fun (W : World) (hW : Below wr.heap.size wr W) => (nd.below hW).app HE.out (nc.few (by omega) (by omega)) (spanD (1 + (k : Int))) (by show (⟨#[97]⟩ : ByteArray).size ≤ maxLen; decide) (by show (⟨#[104]⟩ : ByteArray).size ≤ maxLen; decide) (by show (⟨#[]⟩ : ByteArray).size ≤ maxLen; decide) hR.symm)
      have HCEL := Lib.hid (fun (W : World) (hW : Below wr.heap.size wr W) => (nd.below hW).cells)
      rw [← hR] at n' z2
      obtain ⟨r9, h', d'⟩ := R
      simp only at n' z2 HAP
      have HNC := Lib.hid (show NodeC d' h' s' ⟨2, 0, 0, noB, 0, 0⟩ (Ls ++ [spanD (1 + (k : Int))]) 1048576 (k + 1) ∧ (Ls ++ [spanD (1 + (k : Int))]).length = k + 1 ∧ firstOf h'.l = 0 from ⟨n', by rw [List.length_append, hl]; rfl, by rw [z2, first_pushed]; exact hf⟩)
      obtain ⟨w2, hw2⟩ : ∃ w2, w2 = wr.drew := ⟨_, rfl⟩
      have HB2 := Lib.hid (show Below wr.heap.size wr w2 by rw [hw2]; exact (Below.refl _ _).drew)
      have hT : w2.cell? ⟨jn, 1, none⟩ = some (.pointer (some ⟨j, 0, none⟩)) := (HCEL.out w2 HB2.out).2.1
      have hS : True := trivial
      clear nd nc hl hf n' z2 hR
      go_wp2_with fail
      refine wp_region_two (T := fun W => W.cell? ⟨jn, 1, none⟩ = some (.pointer (some ⟨j, 0, none⟩))) (S := fun _ => True) (n := 99) (by kernel_rfl) ?_
      rw [← hw2]
      clear hw2
      refine tk 0 27 hT hS ?_
      refine tk 1 28 hT hS ?_
      try simp only [Act.put, List.setIfInBounds_toArray, scons]
      refine tk 2 29 hT hS ?_
      refine tk 3 30 hT hS ?_
      try simp only [Act.put, List.setIfInBounds_toArray, scons]
      refine tk 4 31 hT hS ?_
      refine tk 5 32 hT hS ?_
      try simp only [Act.put, List.setIfInBounds_toArray, scons]
      refine two_one 6 rfl (by kernel_rfl) ?_
      intro K hK
      go_simp
      refine (spanD_any _ _).mono ?_
      rintro e w3 ⟨rfl, hb3⟩
      have HB3 := Lib.hid (HB2.out.trans (hb3.mono HB2.out.size))
      have hT1 : w3.cell? ⟨jn, 1, none⟩ = some (.pointer (some ⟨j, 0, none⟩)) := (HCEL.out w3 HB3.out).2.1
      refine hK.out _ _ hT1 (fun _ _ => hS) ?_
      clear hK K
      try simp only [Act.put, List.setIfInBounds_toArray, scons]
      clear hb3 hT
      refine two_one 7 rfl (by kernel_rfl) ?_
      intro K hK
      go_simp
      refine (HAP.out w3 HB3.out).mono ?_
      rintro e w4 ⟨rfl, hnd4, _⟩
      have hT2 : w4.cell? ⟨jn, 1, none⟩ = some (.pointer (some ⟨j, 0, none⟩)) := hnd4.cells.2.1
      have HN4 := Lib.hid hnd4
      refine hK.out _ _ hT2 (fun _ _ => hS) ?_
      clear hK K
      try simp only [Act.put, List.setIfInBounds_toArray, scons]
      clear hnd4 hT1 hT2 HAP HCEL
      refine two_done (by kernel_rfl) ?_ _
      go_wp2_with fail
      go_roundg (m - (k + 1))
      case measure => omega
      case rel => exact ⟨k + 1, by go_num, by omega, rfl, d', h', s', _, HN4.out, HNC.out.1, HNC.out.2.1, HNC.out.2.2⟩
    case neg =>
      obtain rfl : k = m := by omega
      have hge : ¬ (k : Int) < k := by omega
      clear hlt hk
      obtain ⟨d1, s1, d2, x2, e1, e2, n1, e3, n2, e4, e5, e6, e7, e8⟩ := tot_rest nc hl hm7 hf
      have hsy := nd.sync HE.out (nc.few (by omega) (by omega)) rfl
      rw [e1, e2] at hsy
      have HSY := Lib.hid hsy
      have HF1 := Lib.hid (n1.few (by omega) (by omega))
      have HF2 := Lib.hid (n2.few (by omega) (by omega))
      have HTK := Lib.hid (n2.take (by omega) (by omega) data.data.toList)
      rw [e4, e5, e7] at HTK
      obtain ⟨x2h, x2n, x2g, x2o, x2m, x2s⟩ := x2
      simp only at e4 e5 e6 e7 e8
      subst e4 e5 e6 e7
      have HE3 := Lib.hid e3
      have HE8 := Lib.hid e8
      have HM7 := Lib.hid hm7
      obtain ⟨c0, c1, c2⟩ := nd.cells
      clear nd nc hl hf e1 e2 n1 e3 n2 e8 hsy
      go_wp2_with fail
      refine HSY.out.mono ?_
      rintro e v1 ⟨rfl, hn1, _⟩
      try simp only at hn1
      have HS5 := Lib.hid (hn1.step HE.out HF1.out 0 ⟨by decide, by decide⟩ HE3.out)
      obtain ⟨c0, c1, c2⟩ := hn1.cells
      clear hn1 HSY HE3 HF1
      go_wp2_with fail
      refine HS5.out.mono ?_
      rintro e v2 ⟨rfl, hn2, _⟩
      try simp only at hn2
      have HCU := Lib.hid hn2.cursor
      obtain ⟨c0, c1, c2⟩ := hn2.cells
      have HN2 := Lib.hid hn2
      clear hn2 HS5
      unfold curV at HCU
      simp only at HCU
      go_wp2_with fail
      refine HCU.out.mono ?_
      rintro e v3 ⟨rfl, hb3⟩
      obtain ⟨qc, hqc⟩ : ∃ q, q = v3.heap.size := ⟨_, rfl⟩
      obtain ⟨v4, hv4⟩ : ∃ y, y = v3.alloc (.cells #[.int .i64 0, .int .i64 0] 30 (0, 0)) := ⟨_, rfl⟩
      have hb4 : Below v2.heap.size v2 v4 := by rw [hv4]; exact hb3.alloc hb3.size _
      have hk4 : Blk v4 qc 30 #[.int .i64 0, .int .i64 0] := by rw [hv4, hqc]; exact Blk.alloc_new v3 _ _
      have HN4 := Lib.hid (HN2.out.add hb4)
      have HQK := Lib.hid (show Also NoK v2 v4 qc from .inr ⟨by have := hb3.size; omega, hk4.lt⟩)
      have HWT := Lib.hid HN4.out.waiting
      have HTA := Lib.hid (HN4.out.take HF2.out data HDS.out rfl)
      have HK4 := Lib.hid hk4
      obtain ⟨c0, c1, c2⟩ := HN4.out.cells
      have hc2 := c2
      rw [hv4] at hc2
      have HV4 := Lib.hid hv4
      have HQC := Lib.hid hqc
      clear HCU hb3 hb4 hk4 hv4 hqc HN2
      go_wp2_with fail
      rw [← HV4.out, ← HQC.out]
      clear hc2
      refine HWT.out.mono ?_
      rintro e v5 ⟨rfl, rfl⟩
      clear HWT
      simp only at HTA ⊢
      obtain ⟨wt, hwt⟩ : ∃ wt, wt = !x2o.toList.isEmpty := ⟨_, rfl⟩
      rw [← hwt]
      have HWV := Lib.hid (show wt = !x2o.toList.isEmpty from hwt)
      have hwt2 : wt = decide ((0 : Int) < k) := by
        rw [hwt]
        rcases HE8.out with ⟨e, e2⟩ | ⟨e, e2⟩
        · rw [e2, noB_is, e]; rfl
        · have h9 : x2o.toList.isEmpty = false := by
            cases hq : x2o.toList.isEmpty with
            | true => exact absurd (noB_of hq) e2
            | false => rfl
          rw [h9, decide_eq_true (by omega)]; rfl
      have hwt3 := hwt2.symm
      have hwt4 : decide (0 < k) = wt := by rw [← hwt3]; congr 1; exact propext (by omega)
      clear hwt hwt2
      go_wp2_with fail
      refine HTA.out.mono ?_
      rintro e v5 ⟨rfl, hn5, hkp5⟩
      have hk5 := HK4.out.chg hkp5 fun e => e HQK.out
      have HDA := Lib.hid (decAck_any data HDS.out v5)
      unfold decAckV at HDA
      rcases HTK.out with ⟨q1, q2⟩ | ⟨q1, _, q2⟩ | ⟨q0, q1, d3, q2, _⟩
      case inl =>
        rw [q1] at HDA
        rw [q2] at hn5 ⊢
        unfold ackV at HDA
        simp only at HDA hn5 ⊢
        have HN5 := Lib.hid hn5
        have HK5 := Lib.hid hk5
        clear q1 q2 HTK HTA HN4 HK4 hkp5 hn5 hk5 c0 c1 c2
        go_wp2_with fail
        refine HDA.out.mono ?_
        rintro e v6 ⟨rfl, hb6⟩
        have hk6 := HK5.out.below hb6
        have HN6 := Lib.hid (HN5.out.below hb6)
        have HK6 := Lib.hid hk6
        clear hb6 hk6 HDA HN5 HK5
        obtain ⟨v8, hv8⟩ : ∃ y, y = (v6.alloc (.cells #[.int .i64 0, .int .i64 0, .int .i64 0] 51 (0, 0))).drew := ⟨_, rfl⟩
        have HB8 := Lib.hid (show Below v6.heap.size v6 v8 by rw [hv8]; exact ((Below.refl _ _).alloc (Nat.le_refl _) _).drew)
        have HN8 := Lib.hid (HN6.out.below HB8.out)
        have HK8 := Lib.hid (HK6.out.below HB8.out)
        have HTT := Lib.hid (fun (W : World) (hW : Below v8.heap.size v8 W) => show W.cell? ⟨jn, 2, none⟩ = some (.pointer (some ⟨jx, 0, none⟩)) ∧ W.cell? ⟨qc, 0, none⟩ = some (.int .i64 0) ∧ W.cell? ⟨qc, 1, none⟩ = some (.int .i64 0) from ⟨(HN8.out.below hW).cells.2.2, (HK8.out.below hW).cell 0, (HK8.out.below hW).cell 1⟩)
        have HCU := Lib.hid HN8.out.cursor
        unfold curV at HCU
        simp only at HCU
        have hT := HTT.out v8 (Below.refl _ _)
        have hS : True := trivial
        clear HN6 HK6
        go_wp2_with fail
        refine wp_region_two (T := fun W => W.cell? ⟨jn, 2, none⟩ = some (.pointer (some ⟨jx, 0, none⟩)) ∧ W.cell? ⟨qc, 0, none⟩ = some (.int .i64 0) ∧ W.cell? ⟨qc, 1, none⟩ = some (.int .i64 0)) (S := fun _ => True) (n := 99) (by kernel_rfl) ?_
        rw [← hv8]
        clear hv8
        refine tk 0 121 hT hS ?_
        refine tk 1 122 hT hS ?_
        try simp only [Act.put, List.setIfInBounds_toArray, scons]
        refine tk 2 123 hT hS ?_
        refine tk 3 124 hT hS ?_
        try simp only [Act.put, List.setIfInBounds_toArray, scons]
        refine tk 5 126 hT hS ?_
        try simp only [Act.put, List.setIfInBounds_toArray, scons]
        refine two_one 4 rfl (by kernel_rfl) ?_
        intro K hK
        go_simp
        refine HCU.out.mono ?_
        rintro e z1 ⟨rfl, hb1⟩
        have HZ1 := Lib.hid hb1
        have hT1 := HTT.out z1 hb1
        refine hK.out _ _ hT1 (fun _ _ => hS) ?_
        clear hK K
        try simp only [Act.put, List.setIfInBounds_toArray, scons]
        clear hb1 hT HCU
        have hT := hT1
        clear hT1
        refine tk 6 127 hT hS ?_
        refine tk 7 128 hT hS ?_
        try simp only [Act.put, List.setIfInBounds_toArray, scons]
        refine tk 8 129 hT hS ?_
        refine tk 9 130 hT hS ?_
        try simp only [Act.put, List.setIfInBounds_toArray, scons]
        refine tk 10 131 hT hS ?_
        refine tk 11 132 hT hS ?_
        try simp only [Act.put, List.setIfInBounds_toArray, scons]
        refine tk 13 134 hT hS ?_
        try simp only [Act.put, List.setIfInBounds_toArray, scons]
        have HWX := Lib.hid (HN8.out.below HZ1.out).waiting
        simp only at HWX
        rw [← HWV.out] at HWX
        refine two_one 12 rfl (by kernel_rfl) ?_
        intro K hK
        go_simp
        refine HWX.out.mono ?_
        rintro e z2 ⟨rfl, rfl⟩
        refine hK.out _ _ hT (fun _ _ => hS) ?_
        clear hK K
        try simp only [Act.put, List.setIfInBounds_toArray, scons]
        clear HWX
        refine tk 14 135 hT hS ?_
        refine tk 15 136 hT hS ?_
        try simp only [Act.put, List.setIfInBounds_toArray, scons]
        refine tk 16 137 hT hS ?_
        refine tk 17 138 hT hS ?_
        try simp only [Act.put, List.setIfInBounds_toArray, scons]
        refine tk 18 139 hT hS ?_
        refine tk 19 140 hT hS ?_
        try simp only [Act.put, List.setIfInBounds_toArray, scons]
        refine tk 20 141 hT hS ?_
        refine tk 21 142 hT hS ?_
        try simp only [Act.put, List.setIfInBounds_toArray, scons]
        refine tk 22 143 hT hS ?_
        refine tk 23 144 hT hS ?_
        try simp only [Act.put, List.setIfInBounds_toArray, scons]
        refine tk 24 145 hT hS ?_
        try simp only [Act.put, List.setIfInBounds_toArray, scons]
        have HLB := Lib.hid ((HN8.out.below HZ1.out).base)
        refine two_one 25 rfl (by kernel_rfl) ?_
        intro K hK
        go_simp
        refine (lives_any _ (HE.out.below HLB.out)).mono ?_
        rintro e z9 ⟨rfl, hb9⟩
        have HZ9 := Lib.hid (HLB.out.trans (hb9.mono HLB.out.size))
        have hT9 := HTT.out z9 (HZ1.out.trans (hb9.mono HZ1.out.size))
        refine hK.out _ _ hT9 (fun _ _ => hS) ?_
        clear hK K
        try simp only [Act.put, List.setIfInBounds_toArray, scons]
        clear hb9 hT HTT
        have hT := hT9
        clear hT9
        refine tk 26 147 hT hS ?_
        refine tk 27 4 hT hS ?_
        try simp only [Act.put, List.setIfInBounds_toArray, scons]
        refine two_done (by kernel_rfl) ?_ _
        go_wp2_with fail
        go_ret
        exact ⟨rfl, HZ9.out⟩
      case inr.inl =>
        rw [q2] at hn5 ⊢
        cases hda : Po.decAck data.data.toList with
        | none => exact absurd hda q1
        | some y =>
          obtain ⟨ya, yf, yn⟩ := y
          rw [hda] at HDA
          unfold ackV at HDA
          simp only at HDA hn5 ⊢
          have HN5 := Lib.hid hn5
          have HK5 := Lib.hid hk5
          clear hda q1 q2 HTK HTA HN4 HK4 hkp5 hn5 hk5 c0 c1 c2
          go_wp2_with fail
          refine HDA.out.mono ?_
          rintro e v6 ⟨rfl, hb6⟩
          have hk6 := HK5.out.below hb6
          have HN6 := Lib.hid (HN5.out.below hb6)
          have HK6 := Lib.hid hk6
          clear hb6 hk6 HDA HN5 HK5
          obtain ⟨v8, hv8⟩ : ∃ y, y = (v6.alloc (.cells #[.int .i64 ya, .int .i64 yf, .int .i64 yn] 51 (0, 0))).drew := ⟨_, rfl⟩
          have HB8 := Lib.hid (show Below v6.heap.size v6 v8 by rw [hv8]; exact ((Below.refl _ _).alloc (Nat.le_refl _) _).drew)
          have HN8 := Lib.hid (HN6.out.below HB8.out)
          have HK8 := Lib.hid (HK6.out.below HB8.out)
          have HTT := Lib.hid (fun (W : World) (hW : Below v8.heap.size v8 W) => show W.cell? ⟨jn, 2, none⟩ = some (.pointer (some ⟨jx, 0, none⟩)) ∧ W.cell? ⟨qc, 0, none⟩ = some (.int .i64 0) ∧ W.cell? ⟨qc, 1, none⟩ = some (.int .i64 0) from ⟨(HN8.out.below hW).cells.2.2, (HK8.out.below hW).cell 0, (HK8.out.below hW).cell 1⟩)
          have HCU := Lib.hid HN8.out.cursor
          unfold curV at HCU
          simp only at HCU
          have hT := HTT.out v8 (Below.refl _ _)
          have hS : True := trivial
          clear HN6 HK6
          go_wp2_with fail
          refine wp_region_two (T := fun W => W.cell? ⟨jn, 2, none⟩ = some (.pointer (some ⟨jx, 0, none⟩)) ∧ W.cell? ⟨qc, 0, none⟩ = some (.int .i64 0) ∧ W.cell? ⟨qc, 1, none⟩ = some (.int .i64 0)) (S := fun _ => True) (n := 99) (by kernel_rfl) ?_
          rw [← hv8]
          clear hv8
          refine tk 0 121 hT hS ?_
          refine tk 1 122 hT hS ?_
          try simp only [Act.put, List.setIfInBounds_toArray, scons]
          refine tk 2 123 hT hS ?_
          refine tk 3 124 hT hS ?_
          try simp only [Act.put, List.setIfInBounds_toArray, scons]
          refine tk 5 126 hT hS ?_
          try simp only [Act.put, List.setIfInBounds_toArray, scons]
          refine two_one 4 rfl (by kernel_rfl) ?_
          intro K hK
          go_simp
          refine HCU.out.mono ?_
          rintro e z1 ⟨rfl, hb1⟩
          have HZ1 := Lib.hid hb1
          have hT1 := HTT.out z1 hb1
          refine hK.out _ _ hT1 (fun _ _ => hS) ?_
          clear hK K
          try simp only [Act.put, List.setIfInBounds_toArray, scons]
          clear hb1 hT HCU
          have hT := hT1
          clear hT1
          refine tk 6 127 hT hS ?_
          refine tk 7 128 hT hS ?_
          try simp only [Act.put, List.setIfInBounds_toArray, scons]
          refine tk 8 129 hT hS ?_
          refine tk 9 130 hT hS ?_
          try simp only [Act.put, List.setIfInBounds_toArray, scons]
          refine tk 10 131 hT hS ?_
          refine tk 11 132 hT hS ?_
          try simp only [Act.put, List.setIfInBounds_toArray, scons]
          refine tk 13 134 hT hS ?_
          try simp only [Act.put, List.setIfInBounds_toArray, scons]
          have HWX := Lib.hid (HN8.out.below HZ1.out).waiting
          simp only at HWX
          rw [← HWV.out] at HWX
          refine two_one 12 rfl (by kernel_rfl) ?_
          intro K hK
          go_simp
          refine HWX.out.mono ?_
          rintro e z2 ⟨rfl, rfl⟩
          refine hK.out _ _ hT (fun _ _ => hS) ?_
          clear hK K
          try simp only [Act.put, List.setIfInBounds_toArray, scons]
          clear HWX
          refine tk 14 135 hT hS ?_
          refine tk 15 136 hT hS ?_
          try simp only [Act.put, List.setIfInBounds_toArray, scons]
          refine tk 16 137 hT hS ?_
          refine tk 17 138 hT hS ?_
          try simp only [Act.put, List.setIfInBounds_toArray, scons]
          refine tk 18 139 hT hS ?_
          refine tk 19 140 hT hS ?_
          try simp only [Act.put, List.setIfInBounds_toArray, scons]
          refine tk 20 141 hT hS ?_
          refine tk 21 142 hT hS ?_
          try simp only [Act.put, List.setIfInBounds_toArray, scons]
          refine tk 22 143 hT hS ?_
          refine tk 23 144 hT hS ?_
          try simp only [Act.put, List.setIfInBounds_toArray, scons]
          refine tk 24 145 hT hS ?_
          try simp only [Act.put, List.setIfInBounds_toArray, scons]
          have HLB := Lib.hid ((HN8.out.below HZ1.out).base)
          refine two_one 25 rfl (by kernel_rfl) ?_
          intro K hK
          go_simp
          refine (lives_any _ (HE.out.below HLB.out)).mono ?_
          rintro e z9 ⟨rfl, hb9⟩
          have HZ9 := Lib.hid (HLB.out.trans (hb9.mono HLB.out.size))
          have hT9 := HTT.out z9 (HZ1.out.trans (hb9.mono HZ1.out.size))
          refine hK.out _ _ hT9 (fun _ _ => hS) ?_
          clear hK K
          try simp only [Act.put, List.setIfInBounds_toArray, scons]
          clear hb9 hT HTT
          have hT := hT9
          clear hT9
          refine tk 26 147 hT hS ?_
          refine tk 27 4 hT hS ?_
          try simp only [Act.put, List.setIfInBounds_toArray, scons]
          refine two_done (by kernel_rfl) ?_ _
          go_wp2_with fail
          go_ret
          exact ⟨rfl, HZ9.out⟩
      case inr.inr =>
        rw [q2] at hn5 ⊢
        rw [q1] at HDA
        unfold ackV at HDA
        have e0 : (0 : Int) + (k : Int) = k := Int.zero_add _
        rw [e0] at HDA hn5
        simp only at HDA hn5 ⊢
        have HN5 := Lib.hid hn5
        clear q0 q1 q2 HTK HTA HN4 HK4 hkp5 hn5 hk5 c0 c1 c2 HE8
        go_wp2_with fail
        refine HDA.out.mono ?_
        rintro e v6 ⟨rfl, hb6⟩
        have HN6 := Lib.hid (HN5.out.below hb6)
        clear hb6 HDA HN5
        obtain ⟨qa, hqa⟩ : ∃ q, q = v6.heap.size := ⟨_, rfl⟩
        obtain ⟨v7, hv7⟩ : ∃ y, y = v6.alloc (.cells #[.int .i64 2, .int .i64 0, .int .i64 k] 51 (0, 0)) := ⟨_, rfl⟩
        have hb7 : Below v6.heap.size v6 v7 := by rw [hv7]; exact (Below.refl _ _).alloc (Nat.le_refl _) _
        have hk7 : Blk v7 qa 51 #[.int .i64 2, .int .i64 0, .int .i64 k] := by rw [hv7, hqa]; exact Blk.alloc_new v6 _ _
        have HV7 := Lib.hid hv7
        have HQA := Lib.hid hqa
        obtain ⟨v8, hv8⟩ : ∃ y, y = v7.drew := ⟨_, rfl⟩
        have hb8 : Below v7.heap.size v7 v8 := by rw [hv8]; exact (Below.refl _ _).drew
        have HN8 := Lib.hid ((HN6.out.below hb7).below hb8)
        have HK8 := Lib.hid (hk7.below hb8)
        have HTT := Lib.hid (fun (W : World) (hW : Below v8.heap.size v8 W) => show W.cell? ⟨jn, 2, none⟩ = some (.pointer (some ⟨jx, 0, none⟩)) ∧ W.cell? ⟨qa, 0, none⟩ = some (.int .i64 2) ∧ W.cell? ⟨qa, 1, none⟩ = some (.int .i64 0) ∧ W.cell? ⟨qa, 2, none⟩ = some (.int .i64 k) from ⟨(HN8.out.below hW).cells.2.2, (HK8.out.below hW).cell 0, (HK8.out.below hW).cell 1, (HK8.out.below hW).cell 2⟩)
        have HCU := Lib.hid HN8.out.cursor
        unfold curV at HCU
        simp only at HCU
        have hT := HTT.out v8 (Below.refl _ _)
        have hS : True := trivial
        clear HN6 hv7 hqa hb7 hk7 hb8
        go_wp2_with fail
        rw [← HV7.out, ← HQA.out]
        refine wp_region_two (T := fun W => W.cell? ⟨jn, 2, none⟩ = some (.pointer (some ⟨jx, 0, none⟩)) ∧ W.cell? ⟨qa, 0, none⟩ = some (.int .i64 2) ∧ W.cell? ⟨qa, 1, none⟩ = some (.int .i64 0) ∧ W.cell? ⟨qa, 2, none⟩ = some (.int .i64 k)) (S := fun _ => True) (n := 99) (by kernel_rfl) ?_
        rw [← hv8]
        clear hv8
        refine tk 0 83 hT hS ?_
        refine tk 1 84 hT hS ?_
        try simp only [Act.put, List.setIfInBounds_toArray, scons]
        refine tk 2 85 hT hS ?_
        refine tk 3 86 hT hS ?_
        try simp only [Act.put, List.setIfInBounds_toArray, scons]
        refine tk 4 87 hT hS ?_
        refine tk 5 88 hT hS ?_
        try simp only [Act.put, List.setIfInBounds_toArray, scons]
        refine tk 6 89 hT hS ?_
        refine tk 7 90 hT hS ?_
        try simp only [Act.put, List.setIfInBounds_toArray, scons]
        refine tk 8 91 hT hS ?_
        refine tk 9 92 hT hS ?_
        try simp only [Act.put, List.setIfInBounds_toArray, scons]
        refine tk 10 93 hT hS ?_
        refine tk 11 94 hT hS ?_
        try simp only [Act.put, List.setIfInBounds_toArray, scons]
        refine tk 12 95 hT hS ?_
        refine tk 13 96 hT hS ?_
        try simp only [Act.put, List.setIfInBounds_toArray, scons]
        refine tk 14 97 hT hS ?_
        refine tk 15 98 hT hS ?_
        try simp only [Act.put, List.setIfInBounds_toArray, scons]
        refine tk 16 99 hT hS ?_
        refine tk 17 100 hT hS ?_
        try simp only [Act.put, List.setIfInBounds_toArray, scons]
        refine tk 18 101 hT hS ?_
        refine tk 19 102 hT hS ?_
        try simp only [Act.put, List.setIfInBounds_toArray, scons]
        refine tk 20 103 hT hS ?_
        refine tk 22 105 hT hS ?_
        try simp only [Act.put, List.setIfInBounds_toArray, scons]
        refine tk 23 106 hT hS ?_
        refine tk 24 107 hT hS ?_
        try simp only [Act.put, List.setIfInBounds_toArray, scons]
        refine two_one 21 rfl (by kernel_rfl) ?_
        intro K hK
        go_simp
        refine HCU.out.mono ?_
        rintro e z1 ⟨rfl, hb1⟩
        have HZ1 := Lib.hid hb1
        have hT1 := HTT.out z1 hb1
        refine hK.out _ _ hT1 (fun _ _ => hS) ?_
        clear hK K
        try simp only [Act.put, List.setIfInBounds_toArray, scons]
        clear hb1 hT HCU
        have hT := hT1
        clear hT1
        refine tk 25 108 hT hS ?_
        refine tk 26 109 hT hS ?_
        try simp only [Act.put, List.setIfInBounds_toArray, scons]
        refine tk 27 110 hT hS ?_
        refine tk 28 111 hT hS ?_
        try simp only [Act.put, List.setIfInBounds_toArray, scons]
        refine tk 29 112 hT hS ?_
        refine tk 30 113 hT hS ?_
        try simp only [Act.put, List.setIfInBounds_toArray, scons]
        refine tk 31 114 hT hS ?_
        try simp only [Act.put, List.setIfInBounds_toArray, scons]
        have HWX := Lib.hid (HN8.out.below HZ1.out).waiting
        simp only at HWX
        rw [noB_is] at HWX
        refine two_one 32 rfl (by kernel_rfl) ?_
        intro K hK
        go_simp
        refine HWX.out.mono ?_
        rintro e z2 ⟨rfl, rfl⟩
        refine hK.out _ _ hT (fun _ _ => hS) ?_
        clear hK K
        try simp only [Act.put, List.setIfInBounds_toArray, scons]
        clear HWX
        refine tk 33 116 hT hS ?_
        refine tk 34 117 hT hS ?_
        try simp only [Act.put, List.setIfInBounds_toArray, scons]
        refine tk 35 118 hT hS ?_
        try simp only [Act.put, List.setIfInBounds_toArray, scons]
        have HLB := Lib.hid ((HN8.out.below HZ1.out).base)
        refine two_one 36 rfl (by kernel_rfl) ?_
        intro K hK
        go_simp
        refine (lives_any _ (HE.out.below HLB.out)).mono ?_
        rintro e z9 ⟨rfl, hb9⟩
        have HZ9 := Lib.hid (HLB.out.trans (hb9.mono HLB.out.size))
        have hT9 := HTT.out z9 (HZ1.out.trans (hb9.mono HZ1.out.size))
        refine hK.out _ _ hT9 (fun _ _ => hS) ?_
        clear hK K
        try simp only [Act.put, List.setIfInBounds_toArray, scons]
        clear hb9 hT HTT
        have hT := hT9
        clear hT9
        refine tk 37 120 hT hS ?_
        refine tk 38 4 hT hS ?_
        try simp only [Act.put, List.setIfInBounds_toArray, scons]
        refine two_done (by kernel_rfl) ?_ _
        go_wp2_with fail
        go_ret
        exact ⟨rfl, HZ9.out⟩
end Go.Proofs.YtdacanghbepjpaaGreatDoor

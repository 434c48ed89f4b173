/- A daemon that is none sends nothing, and takes nothing; of a log that is none, or a host that there is not, there is none: walked. -/
import Derived.Test.YtdacanghbepjpaaGreatDoorDmH
import Derived.Test.YtdacanghbepjpaaGreatDoorDmTab
namespace Go.Proofs.YtdacanghbepjpaaGreatDoor
set_option linter.unusedSimpArgs false
set_option linter.unusedVariables false
set_option maxRecDepth 100000
open Go.RowKit Go.Maps
open Dsk
/-- A daemon that is none. -/
def NilX (w : World) (a : Option Addr) : Prop := a = none ∨ ∃ b, a = some ⟨b, 0, none⟩ ∧ b < w.heap.size ∧ w.cell? ⟨b, 0, none⟩ = some (.pointer none)
section
variable {w w' : World} {a : Option Addr}
theorem NilX.below (h : NilX w a) (y : Below w.heap.size w w') : NilX w' a := by
  rcases h with h | ⟨b, h1, h2, h3⟩
  · exact .inl h
  · exact .inr ⟨b, h1, Nat.lt_of_lt_of_le h2 y.size, (y.cell (p := ⟨b, 0, none⟩) h2).trans h3⟩
theorem nilx_none (h : NilX w a) : Calls Tryz.prog 70 #[.pointer a] w fun e w' => e = .returned (.bool true) ∧ w = w' := by
  rcases h with rfl | ⟨b, rfl, _, h⟩
  · exact dm_none_nil w
  · exact dm_none_zero h
theorem nilx_step (h : NilX w a) (now : Int) : Calls Tryz.prog 14 #[.pointer a, .int .i64 now] w fun e w' => e = .returned (.tuple #[.string ⟨#[]⟩, .int .i64 1]) ∧ w = w' := by
  have HN := Lib.hid (nilx_none h)
  clear h
  go_enter Tryz.func14, Tryz.ntmps14
  go_wp2_with fail
  refine HN.out.mono ?_
  rintro e y1 ⟨rfl, rfl⟩
  go_wp2_with fail
  refine bodyPost_ret (v := .tuple #[.string ⟨#[]⟩, .int .i64 1]) (by simp [results, Tryz.results14, go_sem]) rfl ?_
  exact ⟨rfl, rfl⟩
theorem nilx_take (h : NilX w a) (s : ByteArray) : Calls Tryz.prog 15 #[.pointer a, .string s] w fun e w' => e = .returned (.tuple #[.bool false, .int .i64 1]) ∧ w = w' := by
  have HN := Lib.hid (nilx_none h)
  clear h
  go_enter Tryz.func15, Tryz.ntmps15
  go_wp2_with fail
  refine HN.out.mono ?_
  rintro e y1 ⟨rfl, rfl⟩
  go_wp2_with fail
  refine bodyPost_ret (v := .tuple #[.bool false, .int .i64 1]) (by simp [results, Tryz.results15, go_sem]) rfl ?_
  exact ⟨rfl, rfl⟩
theorem nilx_waiting (h : NilX w a) : Calls Tryz.prog 17 #[.pointer a] w fun e w' => e = .returned (.bool false) ∧ w = w' := by
  have HN := Lib.hid (nilx_none h)
  clear h
  go_enter Tryz.func17, Tryz.ntmps17
  go_wp2_with fail
  refine HN.out.mono ?_
  rintro e y1 ⟨rfl, rfl⟩
  go_wp2_with fail
  go_ret
  exact ⟨rfl, rfl⟩
theorem nilx_cursor (h : NilX w a) : Calls Tryz.prog 16 #[.pointer a] w fun e w' => e = .returned (.agg #[.int .i64 0, .int .i64 0]) ∧ Below w.heap.size w w' := by
  obtain ⟨q, hq⟩ : ∃ q, q = w.heap.size := ⟨_, rfl⟩
  obtain ⟨w1, hw1⟩ : ∃ w1, w1 = w.alloc (.cells #[.int .i64 0, .int .i64 0] 30 (0, 0)) := ⟨_, rfl⟩
  have hb1 : Below w.heap.size w w1 := by rw [hw1]; exact (Below.refl _ _).alloc (Nat.le_refl _) _
  have hk1 : Blk w1 q 30 #[.int .i64 0, .int .i64 0] := by rw [hw1, hq]; exact Blk.alloc_new w _ _
  have HN := Lib.hid (nilx_none (h.below hb1))
  have k0 := hk1.cell 0
  have k1 := hk1.cell 1
  simp only [List.getElem?_toArray, List.getElem?_cons_zero, List.getElem?_cons_succ] at k0 k1
  have f0 := hk1.free 0
  have f1 := hk1.free 1
  have hk2 := (hk1.set 0 (.int .i64 0)).set 1 (.int .i64 0)
  simp only [List.setIfInBounds_toArray, List.set_cons_zero, List.set_cons_succ] at hk2
  have HK2 := Lib.hid hk2
  have HB2 := Lib.hid ((hb1.setCell (p := ⟨q, 0, none⟩) (by show w.heap.size ≤ q; omega) (.int .i64 0)).setCell (p := ⟨q, 1, none⟩) (by show w.heap.size ≤ q; omega) (.int .i64 0))
  have HW1 := Lib.hid hw1
  clear h hb1 hk1 hk2 hw1
  go_enter Tryz.func16, Tryz.ntmps16
  go_wp2_with fail
  rw [← HW1.out, ← hq]
  refine HN.out.mono ?_
  rintro e w2 ⟨rfl, rfl⟩
  clear HN hq
  go_wp2_with fail
  have r0 := HK2.out.cell 0
  have r1 := HK2.out.cell 1
  simp only [List.getElem?_toArray, List.getElem?_cons_zero, List.getElem?_cons_succ] at r0 r1
  refine bodyPost_ret (v := .agg #[.int .i64 0, .int .i64 0]) (by simp [results, Tryz.results16, go_sem, r0, r1]) rfl ?_
  exact ⟨rfl, HB2.out⟩
end
section
variable {w0 w w' : World} {K : Nat → Prop} {jn bd j jx : Nat} {d d' : Dk} {h h' : Hl} {x x' : Dm} {s c k : Nat}
theorem NE.daemon (n : NE w0 w K jn bd j jx d h x) (f : Few d h s x) (host : Int) (hh : Po.HostOk host) :
    Calls Tryz.prog 19 #[.pointer (some ⟨bd, 0, none⟩), .pointer (some ⟨j, 0, none⟩), .int .i64 host] w fun e w' =>
      ∃ jx, e = .returned (.tuple #[.pointer (some ⟨jx, 0, none⟩), .int .i64 0]) ∧ Below w.heap.size w w' := by
  obtain ⟨P, n, _⟩ := n
  refine (n.na.log.daemon host hh (by rw [f.node.run.load])).mono ?_
  rintro e w' ⟨jx, rfl, _, _, hb⟩
  exact ⟨jx, rfl, hb⟩
end
set_option maxHeartbeats 8000000 in
theorem walkDaemonNone (data : ByteArray) (host now : Int) (w : World) (h1 : data.size ≤ maxLen) (h2 : -9223372036854775808 ≤ host ∧ host ≤ 9223372036854775807) (h3 : -9223372036854775808 ≤ now ∧ now ≤ 9223372036854775807) (he : LEnv w) :
    Calls Tryz.prog 3 #[.string data, .int .i64 host, .int .i64 now] w fun e w' => e = .returned (.bool true) ∧ Below w.heap.size w w' := by
  have HE := Lib.hid he
  unfold maxLen at h1
  clear he
  by_cases hlen : 200 < data.size
  case pos =>
    have hl2 : (200 : Int) < data.size := by omega
    go_enter Tryz.func3, Tryz.ntmps3
    go_wp2_with fail
    refine (lives_any w HE.out).mono ?_
    rintro e w1 ⟨rfl, hb⟩
    have HB := Lib.hid hb
    clear hb
    go_wp2_with fail
    go_ret
    exact ⟨rfl, HB.out⟩
  case neg =>
  have hl2 : ¬ (200 : Int) < data.size := by omega
  go_enter Tryz.func3, Tryz.ntmps3
  go_wp2_with fail
  go_loopg [7, 8] 2 (fun g v7 v8 wr => ∃ (k : Nat) (a : Option Addr), v8 = .int .i64 k ∧ k ≤ 2 ∧ g = 2 - k ∧ v7 = .pointer a ∧ NilX wr a ∧ Below w.heap.size w wr)
  case atStart => exact ⟨0, none, rfl, by omega, rfl, rfl, .inl rfl, Below.refl _ _⟩
  case round =>
    obtain ⟨k, a, rfl, hk, rfl, rfl, hnx, hbw⟩ := hrel
    have HNX := Lib.hid hnx
    have HBW := Lib.hid hbw
    clear hnx hbw
    by_cases hlt : k < 2
    case pos =>
      have hlt2 : (k : Int) < 2 := by omega
      go_wp2_with fail
      refine (nilx_step HNX.out now).mono ?_
      rintro e y1 ⟨rfl, rfl⟩
      go_wp2_with fail
      refine (nilx_take HNX.out data).mono ?_
      rintro e y1 ⟨rfl, rfl⟩
      go_wp2_with fail
      refine (nilx_cursor HNX.out).mono ?_
      rintro e y1 ⟨rfl, hb1⟩
      have HN1 := Lib.hid (HNX.out.below hb1)
      have HB1 := Lib.hid (HBW.out.trans (hb1.mono HBW.out.size))
      clear hb1
      go_wp2_with fail
      refine (nilx_waiting HN1.out).mono ?_
      rintro e y2 ⟨rfl, rfl⟩
      have HB2 := Lib.hid (show Below w.heap.size w (y1.alloc (.cells #[.pointer none, .pointer none, .int .i64 0, .int .i64 0, .int .i64 0, .string ⟨#[]⟩, .int .i64 0, .int .i64 0] 37 (0, 0))) from HB1.out.alloc HB1.out.size _)
      have HN2 := Lib.hid (show NilX (y1.alloc (.cells #[.pointer none, .pointer none, .int .i64 0, .int .i64 0, .int .i64 0, .string ⟨#[]⟩, .int .i64 0, .int .i64 0] 37 (0, 0))) (some ⟨y1.heap.size, 0, none⟩) from .inr ⟨_, rfl, (Blk.alloc_new y1 _ _).lt, (Blk.alloc_new y1 37 #[.pointer none, .pointer none, .int .i64 0, .int .i64 0, .int .i64 0, .string ⟨#[]⟩, .int .i64 0, .int .i64 0]).cell 0⟩)
      go_wp2_with fail
      go_roundg (2 - (k + 1))
      case measure => omega
      case rel => exact ⟨k + 1, _, by go_num, by omega, rfl, rfl, HN2.out, HB2.out⟩
    case neg =>
      obtain rfl : k = 2 := by omega
      clear hlt HNX
      have HBG := Lib.hid (begun_any 1 (by decide) wr)
      have HEW := Lib.hid (HE.out.below HBW.out)
      go_wp2_with fail
      refine HBG.out.mono ?_
      rintro e v1 ⟨jn, rfl, bd, j, jx, P, hnd⟩
      have HN1 := Lib.hid hnd.ne
      have HF := Lib.hid ((NodeC.new 1 (by decide) (c := 1048576) (by decide) (by decide)).few (by decide) (by decide))
      clear hnd HBG
      obtain ⟨v2, hv2⟩ : ∃ v2, v2 = v1.drew := ⟨_, rfl⟩
      have HV2 := Lib.hid (show Below v1.heap.size v1 v2 by rw [hv2]; exact (Below.refl _ _).drew)
      have hT : v2.cell? ⟨jn, 0, none⟩ = some (.pointer (some ⟨bd, 0, none⟩)) ∧ v2.cell? ⟨jn, 1, none⟩ = some (.pointer (some ⟨j, 0, none⟩)) := ⟨(HN1.out.below HV2.out).cells.1, (HN1.out.below HV2.out).cells.2.1⟩
      have hS : True := trivial
      by_cases hh : Po.HostOk host
      case pos =>
        have hh1 : (0 : Int) ≤ host := hh.1
        have hh2 : host < 4 := hh.2
        have hh3 : host ≥ 0 := hh.1
        have HDM := Lib.hid ((HN1.out.below HV2.out).daemon HF.out host hh)
        clear hh
        go_wp2_with fail
        refine wp_region_two (T := fun W => W.cell? ⟨jn, 0, none⟩ = some (.pointer (some ⟨bd, 0, none⟩)) ∧ W.cell? ⟨jn, 1, none⟩ = some (.pointer (some ⟨j, 0, none⟩))) (S := fun _ => True) (n := 99) (by kernel_rfl) ?_
        rw [← hv2]
        clear hv2
        refine tk 0 67 hT hS ?_
        refine tk 1 68 hT hS ?_
        refine tk 2 69 hT hS ?_
        refine tk 3 70 hT hS ?_
        refine tk 4 71 hT hS ?_
        refine tk 5 72 hT hS ?_
        refine tk 6 73 hT hS ?_
        refine tk 7 74 hT hS ?_
        refine tk 8 75 hT hS ?_
        try simp only [Act.put, List.setIfInBounds_toArray, scons]
        refine two_one 9 rfl (by kernel_rfl) ?_
        intro K hK
        go_simp
        refine HDM.out.mono ?_
        rintro e v3 ⟨jx2, rfl, hb3⟩
        have HN3 := Lib.hid ((HN1.out.below HV2.out).below hb3)
        have hT1 : v3.cell? ⟨jn, 0, none⟩ = some (.pointer (some ⟨bd, 0, none⟩)) ∧ v3.cell? ⟨jn, 1, none⟩ = some (.pointer (some ⟨j, 0, none⟩)) := ⟨HN3.out.cells.1, HN3.out.cells.2.1⟩
        refine hK.out _ _ hT1 (fun _ _ => hS) ?_
        clear hK K hb3 hT HDM HN1 HV2
        have hT := hT1
        clear hT1
        try simp only [Act.put, List.setIfInBounds_toArray, scons]
        refine tk 10 66 hT hS ?_
        refine tk 11 77 hT hS ?_
        refine tk 12 78 hT hS ?_
        refine tk 13 14 hT hS ?_
        refine tk 14 15 hT hS ?_
        try simp only [Act.put, List.setIfInBounds_toArray, scons]
        refine two_done (by kernel_rfl) ?_ _
        obtain ⟨c0, c1⟩ := hT
        go_wp2_with fail
        refine (dm_open_nil _ 1 _).mono ?_
        rintro e v4 ⟨rfl, rfl⟩
        clear c0 c1
        have HB4 := Lib.hid (HBW.out.trans (HN3.out.base.mono HBW.out.size))
        go_wp2_with fail
        refine (lives_any _ (HE.out.below HB4.out)).mono ?_
        rintro e v5 ⟨rfl, hb5⟩
        have HB5 := Lib.hid (HB4.out.trans (hb5.mono HB4.out.size))
        clear hb5
        go_wp2_with fail
        go_ret
        exact ⟨rfl, HB5.out⟩
      case neg =>
        have HDM := Lib.hid (dm_open_bad (.pointer (some ⟨bd, 0, none⟩)) (some ⟨j, 0, none⟩) host hh v2)
        by_cases hh1 : host ≥ 0
        case pos =>
          have hh2 : ¬ host < 4 := fun e => hh ⟨hh1, e⟩
          have hh4 : decide (host < 4) = false := decide_eq_false hh2
          clear hh
          go_wp2_with fail
          refine wp_region_two (T := fun W => W.cell? ⟨jn, 0, none⟩ = some (.pointer (some ⟨bd, 0, none⟩)) ∧ W.cell? ⟨jn, 1, none⟩ = some (.pointer (some ⟨j, 0, none⟩))) (S := fun _ => True) (n := 99) (by kernel_rfl) ?_
          rw [← hv2]
          clear hv2
          refine tk 0 67 hT hS ?_
          refine tk 1 68 hT hS ?_
          refine tk 2 69 hT hS ?_
          refine tk 3 70 hT hS ?_
          refine tk 4 71 hT hS ?_
          refine tk 5 72 hT hS ?_
          refine tk 6 73 hT hS ?_
          refine tk 7 74 hT hS ?_
          refine tk 8 75 hT hS ?_
          try simp only [Act.put, List.setIfInBounds_toArray, scons]
          refine two_one 9 rfl (by kernel_rfl) ?_
          intro K hK
          go_simp
          refine HDM.out.mono ?_
          rintro e v3 ⟨rfl, hv3⟩
          have hb3 : Below v2.heap.size v2 v3 := by rw [← hv3]; exact Below.refl _ _
          clear hv3
          have HN3 := Lib.hid ((HN1.out.below HV2.out).below hb3)
          have hT1 : v3.cell? ⟨jn, 0, none⟩ = some (.pointer (some ⟨bd, 0, none⟩)) ∧ v3.cell? ⟨jn, 1, none⟩ = some (.pointer (some ⟨j, 0, none⟩)) := ⟨HN3.out.cells.1, HN3.out.cells.2.1⟩
          refine hK.out _ _ hT1 (fun _ _ => hS) ?_
          clear hK K hb3 hT HDM HN1 HV2
          have hT := hT1
          clear hT1
          try simp only [Act.put, List.setIfInBounds_toArray, scons]
          refine tk 10 66 hT hS ?_
          refine tk 11 77 hT hS ?_
          refine tk 12 78 hT hS ?_
          refine tk 13 14 hT hS ?_
          refine tk 14 15 hT hS ?_
          try simp only [Act.put, List.setIfInBounds_toArray, scons]
          refine two_done (by kernel_rfl) ?_ _
          obtain ⟨c0, c1⟩ := hT
          go_wp2_with fail
          refine (dm_open_nil _ 1 _).mono ?_
          rintro e v4 ⟨rfl, rfl⟩
          clear c0 c1
          have HB4 := Lib.hid (HBW.out.trans (HN3.out.base.mono HBW.out.size))
          go_wp2_with fail
          refine (lives_any _ (HE.out.below HB4.out)).mono ?_
          rintro e v5 ⟨rfl, hb5⟩
          have HB5 := Lib.hid (HB4.out.trans (hb5.mono HB4.out.size))
          clear hb5
          go_wp2_with fail
          go_ret
          exact ⟨rfl, HB5.out⟩
        case neg =>
          clear hh
          go_wp2_with fail
          refine wp_region_two (T := fun W => W.cell? ⟨jn, 0, none⟩ = some (.pointer (some ⟨bd, 0, none⟩)) ∧ W.cell? ⟨jn, 1, none⟩ = some (.pointer (some ⟨j, 0, none⟩))) (S := fun _ => True) (n := 99) (by kernel_rfl) ?_
          rw [← hv2]
          clear hv2
          refine tk 0 67 hT hS ?_
          refine tk 1 68 hT hS ?_
          refine tk 2 69 hT hS ?_
          refine tk 3 70 hT hS ?_
          refine tk 4 71 hT hS ?_
          refine tk 5 72 hT hS ?_
          refine tk 6 73 hT hS ?_
          refine tk 7 74 hT hS ?_
          refine tk 8 75 hT hS ?_
          try simp only [Act.put, List.setIfInBounds_toArray, scons]
          refine two_one 9 rfl (by kernel_rfl) ?_
          intro K hK
          go_simp
          refine HDM.out.mono ?_
          rintro e v3 ⟨rfl, hv3⟩
          have hb3 : Below v2.heap.size v2 v3 := by rw [← hv3]; exact Below.refl _ _
          clear hv3
          have HN3 := Lib.hid ((HN1.out.below HV2.out).below hb3)
          have hT1 : v3.cell? ⟨jn, 0, none⟩ = some (.pointer (some ⟨bd, 0, none⟩)) ∧ v3.cell? ⟨jn, 1, none⟩ = some (.pointer (some ⟨j, 0, none⟩)) := ⟨HN3.out.cells.1, HN3.out.cells.2.1⟩
          refine hK.out _ _ hT1 (fun _ _ => hS) ?_
          clear hK K hb3 hT HDM HN1 HV2
          have hT := hT1
          clear hT1
          try simp only [Act.put, List.setIfInBounds_toArray, scons]
          refine tk 10 66 hT hS ?_
          refine tk 11 77 hT hS ?_
          refine tk 12 78 hT hS ?_
          refine tk 13 14 hT hS ?_
          refine tk 14 15 hT hS ?_
          try simp only [Act.put, List.setIfInBounds_toArray, scons]
          refine two_done (by kernel_rfl) ?_ _
          obtain ⟨c0, c1⟩ := hT
          go_wp2_with fail
          refine (dm_open_nil _ 1 _).mono ?_
          rintro e v4 ⟨rfl, rfl⟩
          clear c0 c1
          have HB4 := Lib.hid (HBW.out.trans (HN3.out.base.mono HBW.out.size))
          go_wp2_with fail
          refine (lives_any _ (HE.out.below HB4.out)).mono ?_
          rintro e v5 ⟨rfl, hb5⟩
          have HB5 := Lib.hid (HB4.out.trans (hb5.mono HB4.out.size))
          clear hb5
          go_wp2_with fail
          go_ret
          exact ⟨rfl, HB5.out⟩
end Go.Proofs.YtdacanghbepjpaaGreatDoor

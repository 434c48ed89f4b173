/- A journal's file mended; what does not count taken away; how many bytes: walked. -/
import Derived.Test.YtcijhhnbhnaiaaaGreatDoorJouG
import Derived.WalkMore
namespace Go.Proofs.YtcijhhnbhnaiaaaGreatDoor
set_option linter.unusedSimpArgs false
set_option linter.unusedVariables false
set_option maxRecDepth 100000
open Go.RowKit Go.Maps
open Dsk

section
variable {w0 w w' : World} {X Z Y S : Nat → Prop} {v : Value} {d d1 d2 d' : Dk} {j : Nat} {st num r : Int} {bad : Bool} {ns : List Nat}
set_option maxHeartbeats 2000000 in
theorem jmend_any {n : Nat} (h : JS w0 X w v d j st bad num) (hn : NumOk w0 n) (text : ByteArray) (ht : text.size ≤ maxLen) (e1 : d.append jdraft text.data.toList = (0, d1)) (e2 : d1.sync jdraft = (0, d2)) (e3 : d2.rename jdraft (jn n) = (0, d')) :
    Calls Tryz.prog 37 #[.pointer (some ⟨j, 0, none⟩), .int .i64 n, .string text] w fun e w' => e = .returned (.int .i64 0) ∧ JS w0 X w' v d' j st bad num ∧ Keeps X w w' := by
  have HJ := Lib.hid h
  have HA := Lib.hid (h.live.appendK ⟨#[106, 43]⟩ text (n := jdraft) rfl rfl e1 (by decide) ht)
  have E2 := Lib.hid e2
  have E3 := Lib.hid e3
  have HN := Lib.hid hn
  obtain ⟨bd, rfl⟩ := h.live.ptr
  obtain ⟨c0, _, _, c3⟩ := blk4 h.blk
  clear h ht e1 e2 e3 hn c3
  go_enter Tryz.func37, Tryz.ntmps37
  go_wp2_with fail
  refine HA.out.mono ?_
  rintro e w1 ⟨rfl, hl, hk⟩
  have HJ1 := Lib.hid (HJ.out.turn hl hk)
  have HK1 := Lib.hid hk
  have HS := Lib.hid (hl.syncK ⟨#[106, 43]⟩ (n := jdraft) rfl E2.out (by decide))
  clear hl hk c0
  obtain ⟨c0, _⟩ := blk4 HJ1.out.blk
  go_wp2_with fail
  refine HS.out.mono ?_
  rintro e w2 ⟨rfl, hl, hk⟩
  have HJ2 := Lib.hid (HJ1.out.turn hl hk)
  have HK2 := Lib.hid (show Chg (fun k => ¬ X k) w w2 from HK1.out.trans hk)
  clear hl hk c0
  go_wp2_with fail
  refine wp_region_two (T := fun W => W.cell? ⟨j, 0, none⟩ = some (.pointer (some ⟨bd, 0, none⟩)) ∧ W.cell? ⟨j, 3, none⟩ = some (.int .i64 num)) (S := fun _ => True) (n := 99) (by kernel_rfl) ?_
  obtain ⟨y1, hy1⟩ : ∃ y, y = (w2).drew := ⟨_, rfl⟩
  rw [← hy1]
  have hby : Below (w2).heap.size w2 y1 := by rw [hy1]; exact (Below.refl _ _).drew
  have HMy1 := Lib.hid (JS.below HJ2.out hby)
  have HCy1 := Lib.hid (Chg.trans HK2.out (Chg.of_below hby))
  have hS : True := trivial
  have hT : y1.cell? ⟨j, 0, none⟩ = some (.pointer (some ⟨bd, 0, none⟩)) ∧ y1.cell? ⟨j, 3, none⟩ = some (.int .i64 num) := by
    obtain ⟨x0, _, _, x3⟩ := blk4 (JS.blk HMy1.out)
    exact ⟨x0, x3⟩
  clear hy1 hby
  refine two_takeT 0 (some 23) (v := ?_) rfl rfl (by kernel_rfl) (by kernel_rfl) (by kernel_rfl) (by decide) (fun _ _ _ h => h) (Or.inl ⟨by rfl, ?hy0⟩) hT hS ?_
  case hy0 => (intro w' hT'; (try unfold T8 at hT'); (try unfold T9 at hT'); (try unfold S8 at hT'); go_simp; (try with_reducible rfl))
  try simp only [Act.put, List.setIfInBounds_toArray, List.set_cons_zero, List.set_cons_succ]
  refine two_takeT 1 (some 24) (v := ?_) rfl rfl (by kernel_rfl) (by kernel_rfl) (by kernel_rfl) (by decide) (fun _ _ _ h => h) (Or.inl ⟨by rfl, ?hy1⟩) hT hS ?_
  case hy1 => (intro w' hT'; (try unfold T8 at hT'); (try unfold T9 at hT'); (try unfold S8 at hT'); go_simp; (try with_reducible rfl))
  try simp only [Act.put, List.setIfInBounds_toArray, List.set_cons_zero, List.set_cons_succ]
  refine two_takeT 2 (some 25) (v := ?_) rfl rfl (by kernel_rfl) (by kernel_rfl) (by kernel_rfl) (by decide) (fun _ _ _ h => h) (Or.inl ⟨by rfl, ?hy2⟩) hT hS ?_
  case hy2 => (intro w' hT'; (try unfold T8 at hT'); (try unfold T9 at hT'); (try unfold S8 at hT'); go_simp; (try with_reducible rfl))
  try simp only [Act.put, List.setIfInBounds_toArray, List.set_cons_zero, List.set_cons_succ]
  refine two_takeT 3 (some 26) (v := ?_) rfl rfl (by kernel_rfl) (by kernel_rfl) (by kernel_rfl) (by decide) (fun _ _ _ h => h) (Or.inl ⟨by rfl, ?hy3⟩) hT hS ?_
  case hy3 => (intro w' hT'; (try unfold T8 at hT'); (try unfold T9 at hT'); (try unfold S8 at hT'); go_simp; (try with_reducible rfl))
  try simp only [Act.put, List.setIfInBounds_toArray, List.set_cons_zero, List.set_cons_succ]
  refine two_takeT 4 (some 27) (v := ?_) rfl rfl (by kernel_rfl) (by kernel_rfl) (by kernel_rfl) (by decide) (fun _ _ _ h => h) (Or.inl ⟨by rfl, ?hy4⟩) hT hS ?_
  case hy4 => (intro w' hT'; (try unfold T8 at hT'); (try unfold T9 at hT'); (try unfold S8 at hT'); go_simp; (try with_reducible rfl))
  try simp only [Act.put, List.setIfInBounds_toArray, List.set_cons_zero, List.set_cons_succ]
  refine two_one 5 rfl (by kernel_rfl) ?_
  intro K hK
  go_simp
  refine ((jnamed_any HN.out (JS.live HMy1.out).below)).mono ?_
  rintro e y2 ⟨rfl, hbz⟩
  have HMy2 := Lib.hid (JS.below HMy1.out hbz)
  have HCy2 := Lib.hid (Chg.trans HCy1.out (Chg.of_below hbz))
  have hT1 : y2.cell? ⟨j, 0, none⟩ = some (.pointer (some ⟨bd, 0, none⟩)) ∧ y2.cell? ⟨j, 3, none⟩ = some (.int .i64 num) := by
    obtain ⟨x0, _, _, x3⟩ := blk4 (JS.blk HMy2.out)
    exact ⟨x0, x3⟩
  refine hK.out _ _ hT1 (fun _ _ => hS) ?_
  clear hK K hT hbz
  have hT := hT1
  clear hT1
  try simp only [Act.put, List.setIfInBounds_toArray, List.set_cons_zero, List.set_cons_succ]
  refine two_one 6 rfl (by kernel_rfl) ?_
  intro K hK
  go_simp
  refine (HMy2.out.live.renameK ⟨#[106, 43]⟩ (jnB n) (n := jdraft) rfl (jnB_data n) E3.out (by decide) (by have := jnB_size HN.out.hi; omega)).mono ?_
  rintro e y3 ⟨rfl, hl, hk⟩
  have HJ3 := Lib.hid (HMy2.out.turn hl hk)
  have HK3 := Lib.hid (show Keeps X w y3 from Chg.trans HCy2.out hk)
  have hT1 : y3.cell? ⟨j, 0, none⟩ = some (.pointer (some ⟨bd, 0, none⟩)) ∧ y3.cell? ⟨j, 3, none⟩ = some (.int .i64 num) := by
    obtain ⟨x0, _, _, x3⟩ := blk4 (JS.blk HJ3.out)
    exact ⟨x0, x3⟩
  refine hK.out _ _ hT1 (fun _ _ => hS) ?_
  clear hK K hT hl hk
  have hT := hT1
  clear hT1
  try simp only [Act.put, List.setIfInBounds_toArray, List.set_cons_zero, List.set_cons_succ]
  refine two_takeT 7 (some 7) (v := ?_) rfl rfl (by kernel_rfl) (by kernel_rfl) (by kernel_rfl) (by decide) (fun _ _ _ h => h) (Or.inl ⟨by rfl, ?hy7⟩) hT hS ?_
  case hy7 => (intro w' hT'; (try unfold T8 at hT'); (try unfold T9 at hT'); (try unfold S8 at hT'); go_simp; (try with_reducible rfl))
  try simp only [Act.put, List.setIfInBounds_toArray, List.set_cons_zero, List.set_cons_succ]
  refine two_done (by kernel_rfl) ?_ _
  clear hT hS
  go_wp2_with fail
  go_ret
  exact ⟨rfl, HJ3.out, HK3.out⟩
set_option maxHeartbeats 2000000 in
theorem jclear_keep (h : JS w0 X w v d j st bad num) (hN : names d.files = ns.map jn) (hl : ns.length ≤ 1) (hn : ∀ n ∈ ns, NumOk w0 n) (from_ : Int) (hf : ∀ n ∈ ns, from_ ≤ n) :
    Calls Tryz.prog 34 #[.pointer (some ⟨j, 0, none⟩), .int .i64 from_] w fun e w' => e = .returned (.int .i64 0) ∧ Below w.heap.size w w' := by
  have HN := Lib.hid h.live.names
  have HW0 := Lib.hid h.live.below
  have HNO := Lib.hid hn
  have HF := Lib.hid hf
  rw [hN, strs_jn] at HN
  obtain ⟨bd, rfl⟩ := h.live.ptr
  obtain ⟨c0, _⟩ := blk4 h.blk
  obtain ⟨m, hm⟩ : ∃ m, m = ns.length := ⟨_, rfl⟩
  have Hm := Lib.hid hm
  rw [← hm] at hl
  clear h hN hn hm hf
  go_enter Tryz.func34, Tryz.ntmps34
  go_wp2_with fail
  go_step3
  go_wp2_with fail
  go_step3
  go_wp2_with fail
  refine HN.out.mono ?_
  rintro e w1 ⟨u, rfl, hu, hb1⟩
  obtain ⟨ux, uc, hus, hcs⟩ := hu.each
  rw [List.length_map, ← Hm.out] at hus
  subst hus
  have HCS := Lib.hid hcs
  have HB1 := Lib.hid hb1
  clear hu hcs hb1 c0
  go_wp2_with fail
  go_loopw [5, 7, 8, 15, 32] (fun v5 _ _ v15 _ wr => v5 = .int .i64 0 ∧ ∃ k : Nat, v15 = .int .i64 k ∧ k ≤ m ∧ Below w1.heap.size w1 wr) (fun _ _ _ v15 _ _ => m - (intOf v15).toNat)
  case atStart => exact ⟨rfl, 0, rfl, by omega, Below.refl _ _⟩
  case round =>
    obtain ⟨rfl, k, rfl, hk, hb⟩ := hrel
    have HB := Lib.hid hb
    have HBW := Lib.hid (HB1.out.trans (hb.mono HB1.out.size))
    clear hb
    by_cases hlt : k < m
    · have hlt2 : (k : Int) < m := by omega
      have hkn : k < ns.length := by rw [← Hm.out]; exact hlt
      obtain ⟨g, rfl, _, hg, hc⟩ := HCS.out k (by rw [List.length_map, ← Hm.out]; exact hlt)
      rw [List.getElem_map] at hc
      obtain ⟨N, hNN⟩ : ∃ N, N = ns[k] := ⟨_, rfl⟩
      rw [← hNN] at hc
      have g0 := (HB.out.cell (p := ⟨g, k, none⟩) hg).trans hc
      have hno : NumOk w0 N := by rw [hNN]; exact HNO.out _ (List.getElem_mem _)
      have hfr : from_ ≤ (N : Int) := by rw [hNN]; exact HF.out _ (List.getElem_mem _)
      have HNB := Lib.hid (jnumber_any hno (HW0.out.trans (HBW.out.mono HW0.out.size)))
      have hn0 : ((N : Int) == 0) = false := by rw [beq_eq_false_iff_ne]; have := hno.lo; omega
      have hjd : jnB N ≠ ⟨#[106, 43]⟩ := fun e => jn_draft N (by rw [← jnB_data, e])
      obtain ⟨JB, hJB⟩ : ∃ JB, JB = jnB N := ⟨_, rfl⟩
      rw [← hJB] at g0 HNB hjd
      have hjl : (JB.toList == [106, 43]) = false := by
        rw [beq_eq_false_iff_ne, ByteArray.toList_eq]
        exact fun e => hjd (bytes_ext e)
      have hjl2 : ¬ JB.toList = [106, 43] := beq_eq_false_iff_ne.1 hjl
      clear hNN hno hc hJB
      go_wp2_with fail
      refine HNB.out.mono ?_
      rintro e w2 ⟨rfl, hb2⟩
      have HB2 := Lib.hid (HB.out.trans (hb2.mono HB.out.size))
      clear hb2 g0
      go_wp2_with fail
      go_roundw
      case rel => exact ⟨rfl, k + 1, by go_num, by omega, HB2.out⟩
      case measure => simp [intOf]; omega
    · have hge : ¬ (k : Int) < m := by omega
      go_wp2_with fail
      go_ret
      exact ⟨rfl, HBW.out⟩
set_option maxHeartbeats 2000000 in
theorem jclear_one {n : Nat} (h : JS w0 X w v d j st bad num) (hN : names d.files = [jn n]) (hn : NumOk w0 n) (from_ : Int) (hf : (n : Int) < from_) (hr : d.remove (jn n) = (0, d')) :
    Calls Tryz.prog 34 #[.pointer (some ⟨j, 0, none⟩), .int .i64 from_] w fun e w' => e = .returned (.int .i64 0) ∧ JS w0 X w' v d' j st bad num ∧ Keeps X w w' := by
  have HN := Lib.hid h.live.names
  have HW0 := Lib.hid h.live.below
  have HNO := Lib.hid hn
  have HJ := Lib.hid h
  have HR := Lib.hid hr
  rw [hN, show strs [jn n] = [jnB n] from rfl] at HN
  obtain ⟨bd, rfl⟩ := h.live.ptr
  obtain ⟨c0, _⟩ := blk4 h.blk
  have hn0 : ((n : Int) == 0) = false := by rw [beq_eq_false_iff_ne]; have := hn.lo; omega
  have hge : ¬ from_ ≤ (n : Int) := by omega
  clear h hN hn hf hr
  go_enter Tryz.func34, Tryz.ntmps34
  go_wp2_with fail
  go_step3
  go_wp2_with fail
  go_step3
  go_wp2_with fail
  refine HN.out.mono ?_
  rintro e w1 ⟨u, rfl, hu, hb1⟩
  obtain ⟨ux, uc, hus, hcs⟩ := hu.each
  have hus2 : u = .slice ux 1 uc := hus
  subst hus2
  obtain ⟨g, rfl, _, hg, hc⟩ := hcs 0 (by simp)
  have hc2 : w1.cell? ⟨g, 0, none⟩ = some (.string (jnB n)) := hc
  have HC := Lib.hid hc2
  have HB1 := Lib.hid hb1
  have HJ1 := Lib.hid (HJ.out.below hb1)
  have HNB := Lib.hid (jnumber_any HNO.out (HW0.out.trans (hb1.mono HW0.out.size)))
  have HNM := Lib.hid (jnB_data n)
  have HJZ := Lib.hid (jnB_size HNO.out.hi)
  have hjd : jnB n ≠ ⟨#[106, 43]⟩ := fun e => jn_draft n (by rw [← jnB_data, e])
  obtain ⟨JB, hJB⟩ : ∃ JB, JB = jnB n := ⟨_, rfl⟩
  rw [← hJB] at HC HNB HNM HJZ hjd
  have hjl : (JB.toList == [106, 43]) = false := by
    rw [beq_eq_false_iff_ne, ByteArray.toList_eq]
    exact fun e => hjd (bytes_ext e)
  have hjl2 : ¬ JB.toList = [106, 43] := beq_eq_false_iff_ne.1 hjl
  clear hu hcs hb1 c0 hus hc hc2 hJB
  have hlen : (List.length [jn n]) = 1 := rfl
  go_wp2_with fail
  go_loopw [5, 7, 8, 15, 32] (fun v5 _ _ v15 _ wr => v5 = .int .i64 0 ∧ ∃ k : Nat, v15 = .int .i64 k ∧ k ≤ 1 ∧ (k = 0 → w1 = wr) ∧ (k = 1 → JS w0 X wr (.pointer (some ⟨bd, 0, none⟩)) d' j st bad num ∧ Keeps X w1 wr)) (fun _ _ _ v15 _ _ => 1 - (intOf v15).toNat)
  case atStart => exact ⟨rfl, 0, rfl, by omega, fun _ => rfl, fun e => by omega⟩
  case round =>
    obtain ⟨rfl, k, rfl, hk, hz, ho⟩ := hrel
    by_cases hlt : k = 0
    · have hw := hz hlt
      subst hw
      have HK0 := Lib.hid hlt
      have hlt2 : (k : Int) < 1 := by omega
      have g0 : w1.cell? ⟨g, k, none⟩ = some (.string JB) := by rw [hlt]; exact HC.out
      clear hz ho hlt
      go_wp2_with fail
      refine HNB.out.mono ?_
      rintro e w2 ⟨rfl, hb2⟩
      have HJ2 := Lib.hid (HJ1.out.below hb2)
      have HB2 := Lib.hid (Keeps.below (X := X) hb2)
      have HRM := Lib.hid (HJ2.out.live.removeK JB HNM.out HR.out (by have := HJZ.out; omega))
      obtain ⟨c0, _⟩ := blk4 HJ2.out.blk
      clear hb2 g0
      go_wp2_with fail
      refine HRM.out.mono ?_
      rintro e w3 ⟨rfl, hl, hk3⟩
      have HJ3 := Lib.hid (HJ2.out.turn hl hk3)
      have HK3 := Lib.hid (HB2.out.trans hk3)
      clear hl hk3 c0
      go_wp2_with fail
      go_roundw
      case rel => exact ⟨rfl, k + 1, by go_num, by have := HK0.out; omega, fun e => by omega, fun _ => ⟨HJ3.out, HK3.out⟩⟩
      case measure => have := HK0.out; simp [intOf]; omega
    · have HO := Lib.hid (ho (by omega))
      have hge2 : ¬ (k : Int) < 1 := by omega
      clear hz ho hlt
      go_wp2_with fail
      go_ret
      exact ⟨rfl, HO.out.1, (Keeps.below HB1.out).trans HO.out.2⟩
end
end Go.Proofs.YtcijhhnbhnaiaaaGreatDoor

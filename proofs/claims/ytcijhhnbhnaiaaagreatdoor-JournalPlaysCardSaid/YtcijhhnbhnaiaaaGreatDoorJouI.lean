/- A journal's bytes; another file; a journal opened: walked. -/
import Derived.Test.YtcijhhnbhnaiaaaGreatDoorJouH
namespace Go.Proofs.YtcijhhnbhnaiaaaGreatDoor
set_option linter.unusedSimpArgs false
set_option linter.unusedVariables false
set_option maxRecDepth 100000
open Go.RowKit Go.Maps
open Dsk

section
variable {w0 w w' : World} {X Z Y S : Nat → Prop} {v : Value} {d d1 d2 d' : Dk} {j : Nat} {st num r : Int} {bad : Bool} {ns : List Nat}
def tsum (ts : List ByteArray) : Int := (ts.map fun t : ByteArray => (t.size : Int)).sum
theorem tsum_snoc (ts : List ByteArray) (k : Nat) (h : k < ts.length) : tsum (ts.take (k + 1)) = tsum (ts.take k) + ts[k].size := by unfold tsum; rw [List.take_succ_eq_append_getElem h, List.map_append, List.sum_append]; simp
theorem tsum_le {ts : List ByteArray} (h : ∀ t ∈ ts, t.size ≤ 1048576) : ∀ k, 0 ≤ tsum (ts.take k) ∧ tsum (ts.take k) ≤ 1048576 * k
  | 0 => by simp [tsum]
  | k + 1 => by
    have h1 := tsum_le h k
    by_cases hk : k < ts.length
    · rw [tsum_snoc ts k hk]
      have := h _ (List.getElem_mem hk)
      omega
    · rw [List.take_of_length_le (by omega)]
      rw [List.take_of_length_le (by omega)] at h1
      omega
set_option maxHeartbeats 2000000 in
theorem jsize_any (h : JS w0 X w v d j st false num) (hup : d.off = false) (hst : d.starts = st) (hN : names d.files = ns.map jn) (hl : ns.length ≤ 1) (hn : ∀ n ∈ ns, NumOk w0 n)
    {ts : List ByteArray} (htl : ts.length = ns.length) (htz : ∀ t ∈ ts, t.size ≤ 1048576) (hrd : ∀ (k : Nat) (hk : k < ns.length) (hk' : k < ts.length), d.read (jn ns[k]) = (ts[k].data.toList, 0)) :
    Calls Tryz.prog 27 #[.pointer (some ⟨j, 0, none⟩)] w fun e w' => e = .returned (.int .i64 (tsum ts)) ∧ Below w.heap.size w w' := by
  have H := Lib.hid (jask_ok h hup hst)
  have HJ := Lib.hid h
  have HF := Lib.hid (fun (W : World) (hW : Below w.heap.size w W) => jfiles_any (h.live.keep hW) hN hl hn)
  have HNM := Lib.hid (fun (W : World) (hW : Below w.heap.size w W) (k : Nat) (hk : k < ns.length) => jnamed_any (hn _ (List.getElem_mem hk)) (h.live.keep hW).below)
  have HRD := Lib.hid (fun (W : World) (hW : Below w.heap.size w W) (k : Nat) (hk : k < ns.length) (hk' : k < ts.length) => (h.live.keep hW).readP (jnB ns[k]) ts[k] (n := jn ns[k]) (jnB_data _) (hrd k hk hk') (by have := jnB_size (hn _ (List.getElem_mem hk)).hi; omega))
  have HS := Lib.hid (tsum_le htz)
  have HZ := Lib.hid htz
  obtain ⟨m, hm⟩ : ∃ m, m = ns.length := ⟨_, rfl⟩
  have Hm := Lib.hid hm
  have Htl := Lib.hid htl
  rw [← hm] at hl
  obtain ⟨bd, rfl⟩ := h.live.ptr
  clear h hup hst hN hn hrd htz hm htl
  go_enter Tryz.func27, Tryz.ntmps27
  go_wp2_with fail
  refine H.out.mono ?_
  rintro e w1 ⟨rfl, hb1⟩
  have HB1 := Lib.hid hb1
  have HJ1 := Lib.hid (HJ.out.below hb1)
  clear hb1
  obtain ⟨c0, _⟩ := blk4 HJ1.out.blk
  go_wp2_with fail
  refine (HF.out w1 HB1.out).mono ?_
  rintro e w2 ⟨u, rfl, hu, hb2⟩
  obtain ⟨ux, uc, hus, hcs⟩ := hu.each
  rw [nI_length, ← Hm.out] at hus
  subst hus
  have HCS := Lib.hid hcs
  have HB2 := Lib.hid (HB1.out.trans (hb2.mono HB1.out.size))
  clear hu hcs hb2 c0
  go_wp2_with fail
  go_loopw [3, 5, 6, 7, 17] (fun v3 _ _ _ v17 wr => ∃ k : Nat, v17 = .int .i64 k ∧ k ≤ m ∧ v3 = .int .i64 (tsum (ts.take k)) ∧ Below w2.heap.size w2 wr) (fun _ _ _ _ v17 _ => m - (intOf v17).toNat)
  case atStart => exact ⟨0, rfl, by omega, by simp [tsum], Below.refl _ _⟩
  case round =>
    obtain ⟨k, rfl, hk, rfl, hb⟩ := hrel
    have HB := Lib.hid hb
    have HBW := Lib.hid (HB2.out.trans (hb.mono HB2.out.size))
    obtain ⟨a, ha⟩ : ∃ a, a = tsum (ts.take k) := ⟨_, rfl⟩
    rw [← ha]
    have HA := Lib.hid ha
    have hak := HS.out k
    rw [← ha] at hak
    clear hb ha
    by_cases hlt : k < m
    · have hlt2 : (k : Int) < m := by omega
      have hkn : k < ns.length := by rw [← Hm.out]; exact hlt
      have hkt : k < ts.length := by rw [Htl.out]; exact hkn
      obtain ⟨g, rfl, _, hg, hc⟩ := HCS.out k (by rw [nI_length]; exact hkn)
      have hc2 : w2.cell? ⟨g, k, none⟩ = some (.int .i64 (ns[k] : Int)) := by rw [hc]; simp [nI]
      have HNK := Lib.hid (fun (W : World) (hW : Below w.heap.size w W) => HNM.out W hW k hkn)
      have HRK := Lib.hid (fun (W : World) (hW : Below w.heap.size w W) => HRD.out W hW k hkn hkt)
      have HSN := Lib.hid (tsum_snoc ts k hkt)
      have htk := HZ.out _ (List.getElem_mem hkt)
      obtain ⟨T, hT0⟩ : ∃ T, T = ts[k] := ⟨_, rfl⟩
      rw [← hT0] at HRK HSN htk
      obtain ⟨JB, hJB⟩ : ∃ JB, JB = jnB ns[k] := ⟨_, rfl⟩
      rw [← hJB] at HNK HRK
      obtain ⟨N, hN⟩ : ∃ N : Int, N = ns[k] := ⟨_, rfl⟩
      rw [← hN] at hc2 HNK
      have g0 := (HB.out.cell (p := ⟨g, k, none⟩) hg).trans hc2
      have HJR := Lib.hid (HJ.out.below HBW.out)
      clear hc hc2 hT0 hJB hN
      go_wp2_with fail
      refine wp_region_two (T := fun W => W.cell? ⟨j, 0, none⟩ = some (.pointer (some ⟨bd, 0, none⟩))) (S := fun _ => True) (n := 99) (by kernel_rfl) ?_
      obtain ⟨y1, hy1⟩ : ∃ y, y = wr.drew := ⟨_, rfl⟩
      rw [← hy1]
      have hby : Below wr.heap.size wr y1 := by rw [hy1]; exact (Below.refl _ _).drew
      have HY1 := Lib.hid (HBW.out.trans (hby.mono HBW.out.size))
      have HX1 := Lib.hid (HB.out.trans (hby.mono HB.out.size))
      have hS : True := trivial
      have hT : y1.cell? ⟨j, 0, none⟩ = some (.pointer (some ⟨bd, 0, none⟩)) := (blk4 (HJ.out.below HY1.out).blk).1
      clear hy1 hby g0
      refine two_takeT 0 (some 22) (v := ?_) rfl rfl (by kernel_rfl) (by kernel_rfl) (by kernel_rfl) (by decide) (fun _ _ _ h => h) (Or.inl ⟨by rfl, ?hy0⟩) hT hS ?_
      case hy0 => (intro w' hT'; (try unfold T8 at hT'); (try unfold T9 at hT'); (try unfold S8 at hT'); go_simp; (try with_reducible rfl))
      try simp only [Act.put, List.setIfInBounds_toArray, List.set_cons_zero, List.set_cons_succ]
      refine two_takeT 1 (some 23) (v := ?_) rfl rfl (by kernel_rfl) (by kernel_rfl) (by kernel_rfl) (by decide) (fun _ _ _ h => h) (Or.inl ⟨by rfl, ?hy1⟩) hT hS ?_
      case hy1 => (intro w' hT'; (try unfold T8 at hT'); (try unfold T9 at hT'); (try unfold S8 at hT'); go_simp; (try with_reducible rfl))
      try simp only [Act.put, List.setIfInBounds_toArray, List.set_cons_zero, List.set_cons_succ]
      refine two_takeT 2 (some 24) (v := ?_) rfl rfl (by kernel_rfl) (by kernel_rfl) (by kernel_rfl) (by decide) (fun _ _ _ h => h) (Or.inl ⟨by rfl, ?hy2⟩) hT hS ?_
      case hy2 => (intro w' hT'; (try unfold T8 at hT'); (try unfold T9 at hT'); (try unfold S8 at hT'); go_simp; (try with_reducible rfl))
      try simp only [Act.put, List.setIfInBounds_toArray, List.set_cons_zero, List.set_cons_succ]
      refine two_takeT 3 (some 25) (v := ?_) rfl rfl (by kernel_rfl) (by kernel_rfl) (by kernel_rfl) (by decide) (fun _ _ _ h => h) (Or.inl ⟨by rfl, ?hy3⟩) hT hS ?_
      case hy3 => (intro w' hT'; (try unfold T8 at hT'); (try unfold T9 at hT'); (try unfold S8 at hT'); go_simp; (try with_reducible rfl))
      try simp only [Act.put, List.setIfInBounds_toArray, List.set_cons_zero, List.set_cons_succ]
      refine two_takeT 4 (some 26) (v := ?_) rfl rfl (by kernel_rfl) (by kernel_rfl) (by kernel_rfl) (by decide) (fun _ _ _ h => h) (Or.inl ⟨by rfl, ?hy4⟩) hT hS ?_
      case hy4 => (intro w' hT'; (try unfold T8 at hT'); (try unfold T9 at hT'); (try unfold S8 at hT'); go_simp; (try with_reducible rfl))
      try simp only [Act.put, List.setIfInBounds_toArray, List.set_cons_zero, List.set_cons_succ]
      refine two_one 5 rfl (by kernel_rfl) ?_
      intro K hK
      go_simp
      refine (HNK.out y1 HY1.out).mono ?_
      rintro e y2 ⟨rfl, hbz⟩
      have HY2 := Lib.hid (HY1.out.trans (hbz.mono HY1.out.size))
      have HX2 := Lib.hid (HX1.out.trans (hbz.mono HX1.out.size))
      have hT1 : y2.cell? ⟨j, 0, none⟩ = some (.pointer (some ⟨bd, 0, none⟩)) := (blk4 (HJ.out.below HY2.out).blk).1
      refine hK.out _ _ hT1 (fun _ _ => hS) ?_
      clear hK K hT hbz
      have hT := hT1
      clear hT1
      try simp only [Act.put, List.setIfInBounds_toArray, List.set_cons_zero, List.set_cons_succ]
      refine two_one 6 rfl (by kernel_rfl) ?_
      intro K hK
      go_simp
      refine (HRK.out y2 HY2.out).mono ?_
      rintro e y3 ⟨rfl, hbz⟩
      have HY3 := Lib.hid (HY2.out.trans (hbz.mono HY2.out.size))
      have HX3 := Lib.hid (HX2.out.trans (hbz.mono HX2.out.size))
      have hT1 : y3.cell? ⟨j, 0, none⟩ = some (.pointer (some ⟨bd, 0, none⟩)) := (blk4 (HJ.out.below HY3.out).blk).1
      refine hK.out _ _ hT1 (fun _ _ => hS) ?_
      clear hK K hT hbz
      have hT := hT1
      clear hT1
      try simp only [Act.put, List.setIfInBounds_toArray, List.set_cons_zero, List.set_cons_succ]
      refine two_takeT 7 (some 21) (v := ?_) rfl rfl (by kernel_rfl) (by kernel_rfl) (by kernel_rfl) (by decide) (fun _ _ _ h => h) (Or.inl ⟨by rfl, ?hy7⟩) hT hS ?_
      case hy7 => (intro w' hT'; (try unfold T8 at hT'); (try unfold T9 at hT'); (try unfold S8 at hT'); go_simp; (try with_reducible rfl))
      try simp only [Act.put, List.setIfInBounds_toArray, List.set_cons_zero, List.set_cons_succ]
      refine two_takeT 8 (some 29) (v := ?_) rfl rfl (by kernel_rfl) (by kernel_rfl) (by kernel_rfl) (by decide) (fun _ _ _ h => h) (Or.inl ⟨by rfl, ?hy8⟩) hT hS ?_
      case hy8 => (intro w' hT'; (try unfold T8 at hT'); (try unfold T9 at hT'); (try unfold S8 at hT'); go_simp; (try with_reducible rfl))
      try simp only [Act.put, List.setIfInBounds_toArray, List.set_cons_zero, List.set_cons_succ]
      refine two_takeT 9 (some 30) (v := ?_) rfl rfl (by kernel_rfl) (by kernel_rfl) (by kernel_rfl) (by decide) (fun _ _ _ h => h) (Or.inl ⟨by rfl, ?hy9⟩) hT hS ?_
      case hy9 => (intro w' hT'; (try unfold T8 at hT'); (try unfold T9 at hT'); (try unfold S8 at hT'); go_simp; (try with_reducible rfl))
      try simp only [Act.put, List.setIfInBounds_toArray, List.set_cons_zero, List.set_cons_succ]
      refine two_takeT 10 (some 6) (v := ?_) rfl rfl (by kernel_rfl) (by kernel_rfl) (by kernel_rfl) (by decide) (fun _ _ _ h => h) (Or.inl ⟨by rfl, ?hy10⟩) hT hS ?_
      case hy10 => (intro w' hT'; (try unfold T8 at hT'); (try unfold T9 at hT'); (try unfold S8 at hT'); go_simp; (try with_reducible rfl))
      try simp only [Act.put, List.setIfInBounds_toArray, List.set_cons_zero, List.set_cons_succ]
      refine two_takeT 11 (some 7) (v := ?_) rfl rfl (by kernel_rfl) (by kernel_rfl) (by kernel_rfl) (by decide) (fun _ _ _ h => h) (Or.inl ⟨by rfl, ?hy11⟩) hT hS ?_
      case hy11 => (intro w' hT'; (try unfold T8 at hT'); (try unfold T9 at hT'); (try unfold S8 at hT'); go_simp; (try with_reducible rfl))
      try simp only [Act.put, List.setIfInBounds_toArray, List.set_cons_zero, List.set_cons_succ]
      refine two_done (by kernel_rfl) ?_ _
      clear hT hS
      go_wp2_with fail
      go_roundw
      case rel => exact ⟨k + 1, by go_num, by omega, by rw [HSN.out, ← HA.out], HX3.out⟩
      case measure => simp [intOf]; omega
    · have hge : ¬ (k : Int) < m := by omega
      go_wp2_with fail
      go_ret
      have hts : tsum ts = a := by rw [HA.out, List.take_of_length_le (by rw [Htl.out, ← Hm.out]; omega)]
      rw [hts]
      exact ⟨rfl, HBW.out⟩
set_option maxHeartbeats 2000000 in
theorem jbegin_bad (h : JS w0 X w v d j st false num) (hup : d.off = false) (hst : d.starts = st) (n : Int) (hn : n ≤ num ∨ 2147483647 < n) :
    Calls Tryz.prog 14 #[.pointer (some ⟨j, 0, none⟩), .int .i64 n] w fun e w' => e = .returned (.int .i64 2) ∧ Below w.heap.size w w' := by
  have H := Lib.hid (jask_ok h hup hst)
  have HJ := Lib.hid h
  clear h hup hst
  by_cases h1 : n ≤ num
  all_goals first | (have h2 : 2147483647 < n := by omega) | skip
  all_goals
    go_enter Tryz.func14, Tryz.ntmps14
    go_wp2_with fail
    refine H.out.mono ?_
    rintro e w1 ⟨rfl, hb1⟩
    have HB1 := Lib.hid hb1
    obtain ⟨_, _, _, c3⟩ := blk4 (HJ.out.below hb1).blk
    clear hb1
    go_wp2_with fail
    go_ret
    exact ⟨rfl, HB1.out⟩
set_option maxHeartbeats 2000000 in
theorem jbegin_ok {n : Nat} (h : JS w0 X w v d j st false num) (hup : d.off = false) (hst : d.starts = st) (hn : num < n ∧ (n : Int) ≤ 2147483647) (hcl : ∀ W : World, Chg (fun g => g = j) w W → JS w0 X W v d j st false n → Calls Tryz.prog 34 #[.pointer (some ⟨j, 0, none⟩), .int .i64 n] W fun e w' => e = .returned (.int .i64 0) ∧ JS w0 X w' v d' j st false n ∧ Keeps X W w') :
    Calls Tryz.prog 14 #[.pointer (some ⟨j, 0, none⟩), .int .i64 n] w fun e w' => e = .returned (.int .i64 0) ∧ JS w0 X w' v d' j st false n ∧ JK X j w w' := by
  have H := Lib.hid (jask_ok h hup hst)
  have HJ := Lib.hid h
  have HCL := Lib.hid hcl
  obtain ⟨hn1, hn2⟩ := hn
  have t1 : ¬ (n : Int) ≤ num := by omega
  have t2 : ¬ (2147483647 : Int) < n := by omega
  clear h hup hst hcl
  go_enter Tryz.func14, Tryz.ntmps14
  go_wp2_with fail
  refine H.out.mono ?_
  rintro e w1 ⟨rfl, hb1⟩
  have HJ1 := Lib.hid (HJ.out.below hb1)
  have HC1 := Lib.hid (show Chg (fun g => g = j) w w1 from Chg.of_below hb1)
  obtain ⟨_, _, _, c3⟩ := blk4 HJ1.out.blk
  have f3 := HJ1.out.blk.free 3
  clear hb1
  go_wp2_with fail
  have hch := put_wr w1 j 3 (.int .i64 n)
  have HJ2 := Lib.hid (HJ1.out.own hch (HJ1.out.blk.set 3 _))
  have HC2 := Lib.hid (HC1.out.trans hch)
  refine (HCL.out _ HC2.out HJ2.out).mono ?_
  rintro e w3 ⟨rfl, hj3, hk3⟩
  have HJ3 := Lib.hid hj3
  have HK3 := Lib.hid hk3
  clear hj3 hk3 hch
  go_wp2_with fail
  go_ret
  exact ⟨rfl, HJ3.out, (HC2.out.mono fun k _ e => .inr e).trans (Chg.mono (show Chg (fun k => ¬ X k) _ _ from HK3.out) fun k _ e => .inl e)⟩
end
end Go.Proofs.YtcijhhnbhnaiaaaGreatDoor

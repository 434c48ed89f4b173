/- A host's log: how many records are sure: walked. -/
import Derived.Test.YtiepipcankhdnaaGreatDoorHlJ
namespace Go.Proofs.YtiepipcankhdnaaGreatDoor
set_option linter.unusedSimpArgs false
set_option linter.unusedVariables false
set_option maxRecDepth 100000
open Go.RowKit Go.Maps
open Dsk

/-- Segments that are not too great. -/
structure SgsBnd (l : List Sg) : Prop where
  may : ∀ a ∈ l, ∀ x ∈ a.spans, Sp.May x
  first : ∀ a ∈ l, a.first ≤ 999999999
  len : ∀ a ∈ l, a.spans.length ≤ 1000000
  many : l.length ≤ 1000000
section
variable {w0 w w' : World} {X H S : Nat → Prop} {v lv : Value} {d d' : Dk} {j B : Nat} {h : Hl} {vs : List SegV} {l : List Sg}
theorem sureL_drop (d : Dk) (l : List Sg) (k n : Nat) (hk : k < l.length) : sureL d (l.drop k) n = if sureN l[k].spans (d.synced (ln l[k].first)) < l[k].spans.length then l[k].first + sureN l[k].spans (d.synced (ln l[k].first)) else sureL d (l.drop (k + 1)) (l[k].first + sureN l[k].spans (d.synced (ln l[k].first))) := by
  rw [List.drop_eq_getElem_cons hk]
  rfl
set_option maxHeartbeats 4000000 in
theorem hsure_any (h0 : HS w0 X H w v d j h) (he : LEnv w) (hbd : SgsBnd h.l) :
    Calls Tryz.prog 15 #[.pointer (some ⟨j, 0, none⟩)] w fun e w' => e = .returned (.int .i64 ((if h.runs d then sureL d h.l 0 else 0 : Nat) : Int)) ∧ Below w.heap.size w w' := by
  have HR := Lib.hid (hruns_any h0)
  by_cases hrun : h.runs d
  · rw [if_pos hrun] at HR ⊢
    obtain ⟨lv, vs, hb, hr, _⟩ := h0.mem
    have HH := Lib.hid h0
    have HE := Lib.hid he
    have HBD := Lib.hid hbd
    have HRW := Lib.hid hr
    obtain ⟨x, c, rfl⟩ := hr.row.shape
    rw [hr.len] at hb HRW
    obtain ⟨m, hm⟩ : ∃ m, m = h.l.length := ⟨_, rfl⟩
    rw [← hm] at hb HRW
    have Hm := Lib.hid hm
    have hm9 : m ≤ 1000000 := by rw [hm]; exact hbd.many
    have hjl := hb.lt
    have c3 := hb.cell 3
    simp at c3
    obtain ⟨R, hR⟩ : ∃ R, R = sureL d h.l 0 := ⟨_, rfl⟩
    rw [← hR]
    have HRR := Lib.hid hR
    clear h0 hrun hr hb hm he hbd hR
    go_enter Tryz.func15, Tryz.ntmps15
    go_wp2_with fail
    refine HR.out.mono ?_
    rintro e w1 ⟨rfl, hb1⟩
    have g3 := (hb1.cell (p := ⟨j, 3, none⟩) hjl).trans c3
    have HB1 := Lib.hid hb1
    clear hb1 c3
    go_wp2_with fail
    go_loopw [3, 5, 6, 15] (fun v3 _ _ v15 wr => ∃ k n : Nat, v15 = .int .i64 k ∧ v3 = .int .i64 n ∧ k ≤ m ∧ R = sureL d (h.l.drop k) n ∧ Below w1.heap.size w1 wr) (fun _ _ _ v15 _ => m - (intOf v15).toNat)
    case atStart => exact ⟨0, 0, rfl, rfl, Nat.zero_le _, HRR.out, Below.refl _ _⟩
    case round =>
      obtain ⟨k, n, rfl, rfl, hk, hrest, hbe⟩ := hrel
      have HRE := Lib.hid hrest
      have HBE := Lib.hid (HB1.out.trans (hbe.mono HB1.out.size))
      have HB2 := Lib.hid hbe
      clear hrest hbe
      by_cases hlt : k < m
      · have hkl : k < h.l.length := by rw [← Hm.out]; exact hlt
        obtain ⟨g, c', sx, sc, ex, ec, hlv, hc, hs, hdep⟩ := HRW.out.seg k hkl
        clear hdep
        injection hlv with e1 e2 e3
        subst e1
        clear e2 e3
        obtain ⟨a, ha⟩ : ∃ a, a = h.l[k] := ⟨_, rfl⟩
        rw [← ha] at hs
        have hmem : a ∈ h.l := by rw [ha]; exact List.getElem_mem hkl
        have hs2 := sureL_drop d h.l k n hkl
        rw [← ha] at hs2
        have hgl := hs.lt
        have s0 := (HBE.out.cell (p := ⟨g, k * 3, none⟩) hgl).trans hs.c0
        have s1 := (HBE.out.cell (p := ⟨g, k * 3 + 1, none⟩) hgl).trans hs.c1
        have s2 := (HBE.out.cell (p := ⟨g, k * 3 + 2, none⟩) hgl).trans hs.c2
        have hf9 := HBD.out.first a hmem
        have hl9 := HBD.out.len a hmem
        have HSA := Lib.hid (fun (W : World) (hW : Below w.heap.size w W) => hsafe_any (sx := sx) (sc := sc) (HH.out.below hW) (HE.out.below hW) (hs.ends.kept hW) (HBD.out.may a hmem) hf9 hl9)
        obtain ⟨fn, hfn⟩ : ∃ fn, fn = a.first := ⟨_, rfl⟩
        obtain ⟨sn, hsn⟩ : ∃ sn, sn = a.spans.length := ⟨_, rfl⟩
        obtain ⟨su, hsu⟩ : ∃ su, su = sureN a.spans (d.synced (ln a.first)) := ⟨_, rfl⟩
        rw [← hsu] at HSA hs2
        rw [← hfn] at HSA hs2 s0 hf9
        rw [← hsn] at HSA hs2 s1 s2 hl9
        have hsule : su ≤ sn := by rw [hsu, hsn]; exact sureN_le _ _
        unfold segVal at HSA
        have HS2 := Lib.hid hs2
        obtain ⟨tot, htot⟩ : ∃ tot, tot = fn + su := ⟨_, rfl⟩
        rw [← htot] at HS2
        have hti : (fn : Int) + (su : Int) = (tot : Int) := by omega
        have htw : IntKind.i64.wrap (tot : Int) = tot := by rw [IntKind.wrap_i64]; omega
        obtain ⟨q, hq⟩ : ∃ q, q = wr.heap.size := ⟨_, rfl⟩
        obtain ⟨wb, hwb⟩ : ∃ wb, wb = wr.alloc (.cells #[.int .i64 fn, .slice sx sn sc, .slice ex sn ec] 92 (0, 0)) := ⟨_, rfl⟩
        have hlt2 : (k : Int) < m := by omega
        have hk0 : (0 : Int) ≤ k := by omega
        clear hs ha hmem hfn hsn hsu hs2 htot hc
        go_wp2_with fail
        rw [← hwb, ← hq]
        have hbb : Below wr.heap.size wr wb := by rw [hwb]; exact (Below.refl _ _).alloc (Nat.le_refl _) _
        have hkb : Blk wb q 92 #[.int .i64 fn, .slice sx sn sc, .slice ex sn ec] := by rw [hwb, hq]; exact Blk.alloc_new wr _ _
        have HBB := Lib.hid (HBE.out.trans (hbb.mono HBE.out.size))
        have HBB1 := Lib.hid (HB2.out.trans (hbb.mono HB2.out.size))
        have HKB := Lib.hid hkb
        clear hwb hq hbb hkb s0 s1 s2 g3
        refine (HSA.out wb HBB.out).mono ?_
        rintro e w3 ⟨rfl, hb3⟩
        have hk3 := HKB.out.below hb3
        have q0 := hk3.cell 0
        have q1 := hk3.cell 1
        simp at q0 q1
        have HB3 := Lib.hid (HBB.out.trans (hb3.mono HBB.out.size))
        have HB31 := Lib.hid (HBB1.out.trans (hb3.mono HBB1.out.size))
        clear hb3 hk3
        by_cases hbr : su < sn
        · have hbr2 : (su : Int) < sn := by omega
          have HV := Lib.hid (show R = tot by rw [HRE.out, HS2.out, if_pos hbr])
          go_wp2_with fail
          go_ret
          rw [HV.out]
          exact ⟨rfl, HB3.out⟩
        · have hbr2 : ¬ (su : Int) < sn := by omega
          have HV := Lib.hid (show R = sureL d (h.l.drop (k + 1)) tot by rw [HRE.out, HS2.out, if_neg hbr])
          clear hbr
          go_wp2_with fail
          go_roundw
          case rel => exact ⟨k + 1, tot, by go_num, rfl, by omega, HV.out, HB31.out⟩
          case measure => simp [intOf]; omega
      · obtain rfl : k = m := by omega
        have hge : ¬ (k : Int) < k := by omega
        have HV := Lib.hid (show R = n by rw [HRE.out, List.drop_of_length_le (by rw [← Hm.out]; exact Nat.le_refl _)]; rfl)
        clear g3
        go_wp2_with fail
        go_ret
        rw [HV.out]
        exact ⟨rfl, HBE.out⟩
  · rw [if_neg hrun] at HR ⊢
    clear h0 hrun he hbd
    go_enter Tryz.func15, Tryz.ntmps15
    go_wp2_with fail
    refine HR.out.mono ?_
    rintro e w1 ⟨rfl, hb1⟩
    have HB := Lib.hid hb1
    clear hb1
    go_wp2_with fail
    go_ret
    exact ⟨rfl, HB.out⟩
end
end Go.Proofs.YtiepipcankhdnaaGreatDoor

/- 'Same': the program's disk and the reference's tell the same. -/
import Derived.Test.YtenbgfejonokdaaRefB
import Derived.Test.YtenbgfejonokdaaLiveM
import Derived.Deep.RegionHeld3
import Derived.BigQuiet
namespace Go.Proofs.Ytenbgfejonokdaa
set_option maxRecDepth 100000
open Go.RowKit Go.Maps
open Dsk

theorem strs_len (l : List Str) : (strs l).length = l.length := by simp [strs]
set_option maxHeartbeats 8000000 in
theorem same_any {w0 w : World} {X : Nat → Prop} {a b : Value} {d : Dk} (h : Mate w0 X w a b d d) :
    Calls Try.prog 38 #[a, b] w fun e w' => e = .returned (.bool true) ∧ Below w.heap.size w w' := by
  obtain ⟨ba, rfl⟩ := h.first.ptr
  obtain ⟨br, rfl⟩ := h.second.ptr
  have hcnt := h.first.ok.count
  have H := Lib.hid h
  have hnl : (strs (names d.files)).length ≤ 1024 := by rw [strs_len]; simpa [names] using hcnt
  have hul : d.unsynced.length ≤ 1024 := by simpa [Dk.unsynced] using hcnt
  clear h
  go_enter Try.func38, Try.ntmps38
  go_wp2_with fail
  refine H.out.first.names.mono ?_
  rintro e w1 ⟨u1, rfl, hu1, hb1⟩
  obtain ⟨x1, k1, hv1, _⟩ := hu1.each
  rw [show (strs (names d.files)).length = d.files.length by simp [strs, names]] at hv1
  subst hv1
  have H1 := Lib.hid (H.out.keep hb1)
  have Hb1 := Lib.hid hb1
  have Hu1 := Lib.hid hu1
  clear hu1 hb1
  obtain ⟨st, vl, nf, vk, hblk⟩ := H1.out.second.blk
  have c1 := hblk.cell 1
  have c2 := hblk.cell 2
  simp at c1 c2
  have hbr : br < w1.drew.heap.size := hblk.lt
  have HD := Lib.hid (H1.out.keep ((Below.refl w1.heap.size w1).drew))
  have HU := Lib.hid (Hu1.out.kept ((Below.refl w1.heap.size w1).drew))
  have hd1 : decide (strs (names d.files) = strs (names d.files)) = true := by simp
  have hd2 : decide (d.unsynced = d.unsynced) = true := by simp
  clear hblk
  go_wp2_with fail
  go_region_held3 (fun w' => w'.cell? ⟨br, 1, none⟩ = some (.int .i64 d.starts) ∧ w'.cell? ⟨br, 2, none⟩ = some (.bool d.off))
    (first | go_keep | ((refine ⟨(hB7.cell (p := ⟨br, 1, none⟩) hbr).trans ?_, (hB7.cell (p := ⟨br, 2, none⟩) hbr).trans ?_⟩ <;> go_keep)) | ((refine ⟨(hB6.cell (p := ⟨br, 1, none⟩) hbr).trans ?_, (hB6.cell (p := ⟨br, 2, none⟩) hbr).trans ?_⟩ <;> go_keep)) | ((refine ⟨(hB5.cell (p := ⟨br, 1, none⟩) hbr).trans ?_, (hB5.cell (p := ⟨br, 2, none⟩) hbr).trans ?_⟩ <;> go_keep)) | ((refine ⟨(hB4.cell (p := ⟨br, 1, none⟩) hbr).trans ?_, (hB4.cell (p := ⟨br, 2, none⟩) hbr).trans ?_⟩ <;> go_keep)) | ((refine ⟨(hB3.cell (p := ⟨br, 1, none⟩) hbr).trans ?_, (hB3.cell (p := ⟨br, 2, none⟩) hbr).trans ?_⟩ <;> go_keep)) | ((refine ⟨(hB2.cell (p := ⟨br, 1, none⟩) hbr).trans ?_, (hB2.cell (p := ⟨br, 2, none⟩) hbr).trans ?_⟩ <;> go_keep)))
    (first
      | ((go_at_call 90; refine HD.out.second.names.mono ?_; rintro e w2 ⟨u2, rfl, hu2, hb2⟩; have hB2 := hb2; have H2 := Lib.hid (HD.out.keep hb2)))
      | ((go_at_call 66; refine (sameTexts_any _ _ _ _ w2 (HU.out.kept hb2).rd hu2.rd (by omega) (by omega)).mono ?_; rintro e w3 ⟨rfl, hb3⟩; have hB3 := hB2.trans (hb3.mono hB2.size); have H3 := Lib.hid (H2.out.keep hb3)))
      | ((go_at_call 92; refine H3.out.first.unsynced.mono ?_; rintro e w4 ⟨u4, rfl, hu4, hb4⟩; have hB4 := hB3.trans (hb4.mono hB3.size); have H4 := Lib.hid (H3.out.keep hb4)))
      | ((go_at_call 93; refine H4.out.second.unsynced.mono ?_; rintro e w5 ⟨u5, rfl, hu5, hb5⟩; have hB5 := hB4.trans (hb5.mono hB4.size); have H5 := Lib.hid (H4.out.keep hb5)))
      | ((go_at_call 91; refine (sameInts_any _ _ _ _ w5 (hu4.kept hb5).rd hu5.rd (by omega) (by omega)).mono ?_; rintro e w6 ⟨rfl, hb6⟩; have hB6 := hB5.trans (hb6.mono hB5.size); have H6 := Lib.hid (H5.out.keep hb6)))
      | ((go_at_call 73; refine H6.out.first.sizes.mono ?_; rintro e w7 ⟨rfl, hb7⟩; have hB7 := hB6.trans (hb7.mono hB6.size); have H7 := Lib.hid (H6.out.keep hb7)))
      | ((go_at_call 84; refine H7.out.second.sizes.mono ?_; rintro e w8 ⟨rfl, rfl⟩))
      | ((go_at_call 67; refine H7.out.first.up.mono ?_; rintro e w8 ⟨rfl, rfl⟩))
      | ((go_at_call 94; refine H7.out.first.starts.mono ?_; rintro e w8 ⟨rfl, rfl⟩)))
  have HM := Lib.hid H7.out
  have HUB := Lib.hid (hB7.mono (show w.heap.size ≤ w1.drew.heap.size from Hb1.out.size))
  have HB := Lib.hid ((Hb1.out.drew).trans HUB.out)
  have HU7 := Lib.hid (HU.out.kept hB7)
  clear H1 H2 H3 H4 H5 H6 H7 HD HU Hu1 hu2 hu4 hu5 hb2 hb3 hb4 hb5 hb6 hb7 hB2 hB3 hB4 hB5 hB6 hB7 c1 c2 hd1 hd2
  obtain ⟨x2, k2, hv2, hcell⟩ := HU7.out.each
  injection hv2 with e1 e2 e3
  subst e1 e3
  have Hcell := Lib.hid hcell
  clear hcell e2
  go_wp2_with fail
  go_loopw [6, 7, 8, 9, 10] (fun v6 _ _ _ _ wr => ∃ i : Nat, v6 = .int .i64 i ∧ i ≤ d.files.length ∧ Below w7.heap.size w7 wr) (fun v6 _ _ _ _ _ => d.files.length - (intOf v6).toNat)
  case atStart => exact ⟨0, rfl, Nat.zero_le _, Below.refl _ _⟩
  case round =>
    obtain ⟨i, rfl, hi, hbr⟩ := hrel
    have HR := Lib.hid hbr
    by_cases hlt : i < d.files.length
    · have hin : i < (strs (names d.files)).length := by rw [strs_len]; simpa [names] using hlt
      obtain ⟨b, rfl, _, hb7, hc⟩ := Hcell.out i hin
      replace hc := (hbr.cell (p := ⟨b, i, none⟩) hb7).trans hc
      have hbw : b < wr.heap.size := Nat.lt_of_lt_of_le hb7 hbr.size
      have hnm : (strs (names d.files))[i] = ⟨d.files[i].1.toArray⟩ := strs_get d.files i hlt hin
      rw [hnm] at hc
      obtain ⟨nm, hnmd⟩ : ∃ nm : ByteArray, nm = ⟨d.files[i].1.toArray⟩ := ⟨_, rfl⟩
      have hsz : nm.size ≤ maxLen := by
        have := (HM.out.first.ok.named _ (List.getElem_mem hlt)).2
        rw [hnmd]
        show d.files[i].1.length ≤ maxLen
        unfold maxLen
        omega
      replace hc : wr.cell? ⟨b, i, none⟩ = some (.string nm) := by rw [hnmd]; exact hc
      have HMr := Lib.hid (HM.out.keep hbr)
      have Hrd := Lib.hid (HMr.out.first.read nm hsz)
      obtain ⟨rs, hrs⟩ : ∃ rs : ByteArray, rs = ⟨(d.read nm.data.toList).1.toArray⟩ := ⟨_, rfl⟩
      obtain ⟨rc, hrc⟩ : ∃ rc : Int, rc = (d.read nm.data.toList).2 := ⟨_, rfl⟩
      have Hrf := Lib.hid (fun (W : World) (hb : Below wr.heap.size wr W) => (HMr.out.keep hb).second.read nm)
      have Hsz := Lib.hid hsz
      rw [← hrs, ← hrc] at Hrd Hrf
      have hii : (i : Int) < d.files.length := by omega
      have hss : (rs.toList == rs.toList) = true := by simp
      clear hbr hnm hin hnmd hrs hrc hsz
      go_wp2_with fail
      refine Hrd.out.mono ?_
      rintro e w8 ⟨rfl, hb8⟩
      have hc8 := (hb8.cell (p := ⟨b, i, none⟩) hbw).trans hc
      have Hb8 := Lib.hid hb8
      clear hb8
      go_wp2_with fail
      refine (Hrf.out w8 Hb8.out).mono ?_
      rintro e w9 ⟨rfl, rfl⟩
      have HM8 := Lib.hid (HMr.out.keep Hb8.out)
      have Hs1 := Lib.hid (fun (Y : Ext w8) => Calls.ext_same (x := Y) ((HM8.out.keep Y.le).first.synced nm Hsz.out))
      have Hs2 := Lib.hid (fun (Y : Ext w8) => Calls.ext_same (x := Y) ((HM8.out.keep Y.le).second.synced nm))
      go_wp2_with fail
      refine wp_region_ext (by kernel_rfl) (by kernel_rfl) fun K hK => ?_
      repeat (go_big_quiet_step ((first | (go_at_call 27; exact Hs1.out _) | (go_at_call 95; exact Hs2.out _))))
      refine wpQuiet_nil (hK _ fun Y => ?_)
      clear hK K
      have Hx := Lib.hid ((HR.out.trans (Hb8.out.mono HR.out.size)).trans (Y.le.mono (Nat.le_trans HR.out.size Hb8.out.size)))
      go_wp2_with fail
      go_roundw
      case rel => exact ⟨i + 1, by go_num, by omega, Hx.out⟩
      case measure => simp [intOf]; omega
    · obtain rfl : i = d.files.length := by omega
      go_wp2_with fail
      go_ret
      exact ⟨rfl, HB.out.trans (HR.out.mono HB.out.size)⟩
end Go.Proofs.Ytenbgfejonokdaa

/- The disk's Unsynced; whether it crashes with a change. -/
import Derived.Test.YtnngdflamkdgaaaDisk3
namespace Go.Proofs.Ytnngdflamkdgaaa
set_option maxRecDepth 100000
open Go.RowKit Go.Maps
open Dsk

theorem unsynced_length (d : Dk) : d.unsynced.length = d.files.length := by simp [Dk.unsynced]
theorem unsynced_succ (d : Dk) (k : Nat) (hk : k < d.files.length) : d.unsynced.take (k + 1) = d.unsynced.take k ++ [(d.files[k].2.data.length : Int) - d.files[k].2.safe] := by
  rw [List.take_succ_eq_append_getElem (by rw [unsynced_length]; exact hk)]
  simp [Dk.unsynced]
theorem OwnI.base {w : World} {B B' : Nat} {v : Value} {l : List Int} (h : OwnI w B v l) (hB : B' ≤ B) : OwnI w B' v l := by
  obtain ⟨h1, h2⟩ := h
  refine ⟨h1, ?_⟩
  rcases h2 with h2 | ⟨g, cap, cur, hv, hg, r⟩
  · exact .inl h2
  · exact .inr ⟨g, cap, cur, hv, Nat.le_trans hB hg, r⟩
section
variable {w : World} {F : Nat → Prop} {bd bm : Nat} {cv kv : Value} {d : Dk}
set_option maxHeartbeats 1000000 in
theorem unsynced_in (h : DiskIn w F bd bm cv kv d) : Calls Try.prog 30 #[.pointer (some ⟨bd, 0, none⟩)] w fun e w' => ∃ v, e = .returned v ∧ OwnI w' w.heap.size v d.unsynced ∧ Below w.heap.size w w' := by
  have hbd := h.blk.lt
  have hcnt := h.ok.count
  have Hn := Lib.hid (names_in h)
  have Hok := Lib.hid h.ok
  have H := Lib.hid h
  clear h
  go_enter Try.func30, Try.ntmps30
  go_wp2_with fail
  refine Hn.out.mono ?_
  rintro e w1 ⟨v, rfl, hown, hb1⟩
  obtain ⟨x, c, rfl, hcell⟩ := hown.each
  rw [names_len]
  have h1 := H.out.below hb1
  have hsz := hb1.size
  have Hb := Lib.hid hb1
  have Hcell := Lib.hid hcell
  have H1 := Lib.hid h1
  clear hown hb1 h1 hcell
  go_wp2_with fail
  go_loopw [3, 5, 6, 10] (fun v3 _ _ v10 wr => ∃ k : Nat, v10 = .int .i64 k ∧ k ≤ d.files.length ∧ OwnI wr w1.heap.size v3 (d.unsynced.take k) ∧ Below w1.heap.size w1 wr) (fun _ _ _ v10 _ => d.files.length - (intOf v10).toNat)
  case atStart => exact ⟨0, rfl, Nat.zero_le _, OwnI.nil _ _, Below.refl _ _⟩
  case round =>
    obtain ⟨k, rfl, hk, hown, hbe⟩ := hrel
    have h2 := H1.out.below hbe
    have hz := hbe.size
    have hbr := h2.blk.lt
    have c3 := h2.blk.cell 3
    simp at c3
    have Hm := Lib.hid h2.map
    have Hown := Lib.hid hown
    have Hbe := Lib.hid hbe
    clear h2 hown hbe
    by_cases hlt : k < d.files.length
    · obtain ⟨b, rfl, _, hbl, hc⟩ := Hcell.out k (by rw [names_len]; exact hlt)
      rw [strs_get d.files k hlt] at hc
      have hc2 := (Hbe.out.cell (p := ⟨b, k, none⟩) hbl).trans hc
      have Hns := Lib.hid (name_size Hok.out.named k hlt)
      have Hg := Lib.hid (get_nth Hok.out.rising k hlt)
      have hsf := Hok.out.safe _ (List.getElem_mem hlt)
      have hdl := data_le (List.getElem_mem hlt)
      have hft := Hok.out.fits
      have hr2 := Hok.out.room2
      have Hsucc := Lib.hid (unsynced_succ d k hlt)
      obtain ⟨s, n, hsn⟩ : ∃ (s : ByteArray) (n : Nat), d.files[k].2 = ⟨s.data.toList, n⟩ := ⟨⟨d.files[k].2.data.toArray⟩, d.files[k].2.safe, rfl⟩
      have hl : s.data.toList.length = s.size := by simp
      rw [hsn] at hsf hdl
      simp only [hl] at hsf hdl
      have hsb : s.size ≤ 1048576 := by omega
      have Hsn := Lib.hid hsn
      have Hl := Lib.hid hl
      obtain ⟨name, hname⟩ : ∃ name : ByteArray, name = ⟨d.files[k].1.toArray⟩ := ⟨_, rfl⟩
      rw [← hname] at hc2
      have Hname := Lib.hid hname
      have hul := unsynced_length d
      have Hul := Lib.hid (show (d.unsynced.take k).length = k by rw [List.length_take]; omega)
      clear hsn hname hc hl hdl hft hr2 hul
      have HN := Lib.hid (show name.size ≤ maxLen by rw [Hname.out]; exact Hns.out)
      have HF := Lib.hid (show (get d.files name.data.toList).getD ⟨[], 0⟩ = ⟨s.data.toList, n⟩ by rw [Hname.out]; show (get d.files d.files[k].1).getD _ = _; rw [Hg.out, Hsn.out]; rfl)
      have HC := Lib.hid (show ((wr.alloc (.cells #[.string s, .int .i64 n] 72 (0, 0))).alloc (.cells #[.int .i64 ((s.size : Int) - n)] 3 (0, 0))).cell? ⟨wr.heap.size + 1, 0, none⟩ = some (.int .i64 ((s.size : Int) - n)) by
        have := (Blk.alloc_new (wr.alloc (.cells #[.string s, .int .i64 n] 72 (0, 0))) 3 #[.int .i64 ((s.size : Int) - n)]).cell 0
        simp at this ⊢)
      have HL := Lib.hid (show (d.unsynced.take k).length + 1 ≤ 8796093022208 by rw [Hul.out]; omega)
      have HZ := Lib.hid (show w1.heap.size ≤ ((wr.alloc (.cells #[.string s, .int .i64 n] 72 (0, 0))).alloc (.cells #[.int .i64 ((s.size : Int) - n)] 3 (0, 0))).heap.size by simp; omega)
      go_wp2_with (first
        | (at_lookup; refine wpList_look rfl (.tmp 17) (.tmp 18) rfl bm _ rfl Hm.out name rfl HN.out s n HF.out ?_)
        | (at_builtin; refine wpList_append_int rfl (.tmp 20) (.tmp 27) rfl w1.heap.size _ _ rfl ((Hown.out.alloc _).alloc _) (wr.heap.size + 1) rfl ((s.size : Int) - n) HC.out HL.out HZ.out ?_; intro v2 w2 hown hbel; have Hown2 := Lib.hid hown; have Hbel2 := Lib.hid hbel; clear hown hbel))
      go_roundw
      case rel => exact ⟨k + 1, by go_num, by omega, by rw [Hsucc.out, Hsn.out]; simp only [Hl.out]; exact Hown2.out, ((Hbe.out.alloc hz _).alloc (by simp; omega) _).trans Hbel2.out⟩
      case measure => simp [intOf]; omega
    · obtain rfl : k = d.files.length := by omega
      go_wp2_with fail
      go_ret
      rw [← unsynced_length, List.take_length] at Hown
      exact ⟨_, rfl, Hown.out.base hsz, Hb.out.trans (Hbe.out.mono hsz)⟩
end
end Go.Proofs.Ytnngdflamkdgaaa

/- The disk's names, sizes. -/
import Derived.Test.YtnngdflamkdgaaaDisk2
namespace Go.Proofs.Ytnngdflamkdgaaa
set_option maxRecDepth 100000
open Go.RowKit Go.Maps
open Dsk

def strs (l : List Str) : List ByteArray := l.map fun x => ⟨x.toArray⟩
theorem strs_length (l : List Str) : (strs l).length = l.length := by simp [strs]
theorem strs_string (l : List Str) : (strs l).map Value.string = l.map Go.Proofs.encStr := by
  unfold strs
  rw [List.map_map]; rfl
theorem strs_inj {a b : List Str} (h : strs a = strs b) : a = b := by
  unfold strs at h
  exact (List.map_inj_right (fun x y e => by injection e with e; injection e)).1 h
theorem OwnS.of {w : World} {B B' : Nat} {v : Value} {l : List Str} (hB : B' ≤ B) (h : w.ownsRow B 9 1 v l.length (l.map Go.Proofs.encStr)) : OwnS w B' v (strs l) := by
  unfold OwnS
  rw [strs_length, strs_string]
  obtain ⟨h1, h2⟩ := h
  refine ⟨h1, ?_⟩
  rcases h2 with h2 | ⟨g, cap, cur, hv, hg, r⟩
  · exact .inl h2
  · exact .inr ⟨g, cap, cur, hv, Nat.le_trans hB hg, r⟩
/-- A row of its own, by its form. -/
theorem OwnS.each {w : World} {B : Nat} {v : Value} {l : List ByteArray} (h : OwnS w B v l) : ∃ x c, v = .slice x l.length c ∧ ∀ (j : Nat) (hj : j < l.length), ∃ b, x = some ⟨b, 0, none⟩ ∧ B ≤ b ∧ b < w.heap.size ∧ w.cell? ⟨b, j, none⟩ = some (.string l[j]) := by
  have hlt := World.ownsRow.lt h
  have hcs := fun g (hg : v.ownBlock = some g) => World.ownsRow.cells h hg
  obtain ⟨h1, h2⟩ := h
  rcases h2 with ⟨rfl, h2⟩ | ⟨g, cap, cur, hv, hg, hh, r⟩
  · exact ⟨none, 0, by rw [h2], fun j hj => absurd hj (by omega)⟩
  · refine ⟨some ⟨g, 0, none⟩, cap, hv, fun j hj => ⟨g, rfl, hg, (hlt g (by rw [hv]; rfl)).2, ?_⟩⟩
    have := hcs g (by rw [hv]; rfl) j (.string l[j]) (by rw [List.getElem?_map, List.getElem?_eq_getElem hj]; rfl)
    have e : (⟨g, 0, none⟩ : Addr).add j = ⟨g, j, none⟩ := by unfold Addr.add; split <;> simp_all
    rw [← e]; exact this

section
variable {w : World} {F : Nat → Prop} {bd bm : Nat} {cv kv : Value} {d : Dk}
set_option maxHeartbeats 400000 in
theorem names_in (h : DiskIn w F bd bm cv kv d) : Calls Try.prog 20 #[.pointer (some ⟨bd, 0, none⟩)] w fun e w' => ∃ v, e = .returned v ∧ OwnS w' w.heap.size v (strs (names d.files)) ∧ Below w.heap.size w w' := by
  have c3 := h.blk.cell 3
  simp at c3
  have his := is_in h
  have hc := h.ok.count
  have hs : Maps.size (encD (H := Unit) d.files) = d.files.length := encD_size _
  have hsort := callsIn_wide.1 (Try.slices_Sorted_keys_47_48 bm d.files.length (encD d.files) fileElem w h.map (by rw [hs]; unfold maxLen; omega) (by rw [hs]; omega))
  have Hr := Lib.hid h.ok.rising
  clear h hs
  go_enter Try.func20, Try.ntmps20
  go_wp2_with (first
    | (go_at_call 46; refine his.mono ?_; rintro e w' ⟨rfl, rfl⟩)
    | (go_at_call 48; refine (callsIn_wide.1 (Try.maps_Keys_48 _ _)).mono ?_; rintro e w' ⟨rfl, rfl⟩)
    | (go_at_call 47; refine hsort.mono ?_; rintro e w' ⟨v, ss, rfl, hS, hrow, hnil, hb⟩; have Hrow := Lib.hid hrow; have HS := Lib.hid hS; have Hb := Lib.hid hb; clear hS hrow hnil hb))
  go_ret
  have hp := HS.out
  rw [encD_keys] at hp
  have hsn := sorted_names Hr.out hp
  have hrow := Hrow.out
  rw [hsn, hp.length_eq] at hrow
  exact ⟨v, rfl, OwnS.of (by simp) hrow, ((Below.refl _ _).alloc (Nat.le_refl _) _).trans (Hb.out.mono (by simp))⟩
theorem strs_get (m : Files) (k : Nat) (hk : k < m.length) (hk' : k < (strs (names m)).length) : (strs (names m))[k] = ⟨m[k].1.toArray⟩ := by simp [strs, names]
theorem name_size {m : Files} (h : ∀ p ∈ m, Named p.1) (k : Nat) (hk : k < m.length) : (ByteArray.mk m[k].1.toArray).size ≤ maxLen := by
  have := h _ (List.getElem_mem hk)
  unfold Named at this
  show m[k].1.toArray.size ≤ maxLen
  rw [List.size_toArray]; unfold maxLen; omega
theorem names_len (m : Files) : (strs (names m)).length = m.length := by simp [strs, names]

set_option maxHeartbeats 1000000 in
theorem size_in (h : DiskIn w F bd bm cv kv d) : Calls Try.prog 19 #[.pointer (some ⟨bd, 0, none⟩)] w fun e w' => e = .returned (.int .i64 (total d.files)) ∧ Below w.heap.size w w' := by
  have hbd := h.blk.lt
  have hcnt := h.ok.count
  have htot : total d.files ≤ 1048576 := Nat.le_trans h.ok.fits h.ok.room2
  have Hn := Lib.hid (names_in h)
  have Hok := Lib.hid h.ok
  have H := Lib.hid h
  clear h
  go_enter Try.func19, Try.ntmps19
  go_wp2_with fail
  refine Hn.out.mono ?_
  rintro e w1 ⟨v, rfl, hown, hb1⟩
  obtain ⟨x, c, rfl, hcell⟩ := hown.each
  rw [names_len]
  have h1 := H.out.below hb1
  have c3 := h1.blk.cell 3
  simp at c3
  have Hm := Lib.hid h1.map
  have Hb := Lib.hid hb1
  have Hcell := Lib.hid hcell
  clear hown hb1 h1 hcell
  go_wp2_with fail
  go_loop [3, 5, 9] (fun v3 _ v9 => ∃ k : Nat, v9 = .int .i64 k ∧ k ≤ d.files.length ∧ v3 = .int .i64 (total (d.files.take k))) (fun _ _ v9 => d.files.length - (intOf v9).toNat)
  case atStart => exact ⟨0, rfl, Nat.zero_le _, rfl⟩
  case round =>
    obtain ⟨k, rfl, hk, rfl⟩ := hrel
    by_cases hlt : k < d.files.length
    · have ht1 := total_take_succ d.files k hlt
      have ht2 := total_take_le d.files (k + 1)
      obtain ⟨b, rfl, _, hbl, hc⟩ := Hcell.out k (by rw [names_len]; exact hlt)
      rw [strs_get d.files k hlt] at hc
      have Hns := Lib.hid (name_size Hok.out.named k hlt)
      have Hg := Lib.hid (get_nth Hok.out.rising k hlt)
      have Ht1 := Lib.hid ht1
      obtain ⟨s, n, hsn⟩ : ∃ (s : ByteArray) (n : Nat), d.files[k].2 = ⟨s.data.toList, n⟩ := ⟨⟨d.files[k].2.data.toArray⟩, d.files[k].2.safe, rfl⟩
      have hsz : d.files[k].2.data.length = s.size := by rw [hsn]; simp
      rw [hsz] at ht1
      have Hsn := Lib.hid hsn
      have Hsz := Lib.hid hsz
      obtain ⟨name, hname⟩ : ∃ name : ByteArray, name = ⟨d.files[k].1.toArray⟩ := ⟨_, rfl⟩
      rw [← hname] at hc
      have Hname := Lib.hid hname
      obtain ⟨T, hT⟩ : ∃ T, total (d.files.take k) = T := ⟨_, rfl⟩
      rw [hT] at ht1 ⊢
      have HT := Lib.hid hT
      have hb2 : T + s.size ≤ 1048576 := by omega
      clear ht1 ht2 hsn hsz hname hT
      go_wp2_with (first
        | (at_lookup; refine wpList_look rfl (.tmp 17) (.tmp 18) rfl bm _ rfl Hm.out name rfl (by rw [Hname.out]; exact Hns.out) s n (by rw [Hname.out]; show (get d.files d.files[k].1).getD _ = _; rw [Hg.out, Hsn.out]; rfl) ?_)
        | (refine wpList_data rfl (.tmp 19) rfl s n rfl ?_))
      go_round
      case rel => exact ⟨k + 1, by go_num, by omega, by rw [Ht1.out, HT.out, Hsz.out]; go_num⟩
      case measure => simp [intOf]; omega
    · obtain rfl : k = d.files.length := by omega
      rw [List.take_length]
      go_wp2_with fail
      go_ret
      exact ⟨rfl, Hb.out⟩
end
end Go.Proofs.Ytnngdflamkdgaaa

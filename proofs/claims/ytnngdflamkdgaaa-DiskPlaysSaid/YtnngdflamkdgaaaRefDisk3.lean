/- The reference's disk: Size, Names, Unsynced. -/
import Derived.Test.YtnngdflamkdgaaaRefDisk2
import Derived.Deep.RegionHeld3
namespace Go.Proofs.Ytnngdflamkdgaaa
open Go.RowKit Go.Maps
open Dsk

theorem strs_take_succ (m : Files) (k : Nat) (hk : k < m.length) : (strs (names m)).take (k + 1) = (strs (names m)).take k ++ [⟨m[k].1.toArray⟩] := by
  have h : k < (strs (names m)).length := by simpa [strs, names] using hk
  rw [List.take_succ_eq_append_getElem h, strs_get m k hk h]
/-- 'append(xs, k)' at a step of a region that draws its order. -/
theorem step_append_int {ops : Array Oper} {o : Oper} {a : Act} {K : Act → World → Prop} {Q : Exit → Act → World → Prop} {E : Prop} {w : World} (hgd : o.guard = none) (s x : Operand)
    (ho : o.op = .call { callee := .builtin .append, args := #[s, x], argTypes := #[23, 23] })
    (B : Nat) (v : Value) (l : List Int) (hs : a.eval s = v) (hown : OwnI w B v l) (g : Nat) (hx : a.eval x = .slice (some ⟨g, 0, none⟩) 1 1) (c : Int) (hc : w.cell? ⟨g, 0, none⟩ = some (.int .i64 c))
    (hl : l.length + 1 ≤ 8796093022208) (hB : B ≤ w.heap.size)
    (h : ∀ v' w', OwnI w' B v' (l ++ [c]) → Below B w w' → K (a.put o.dst v') w') : if Region.wanted o (yielded ops a.tmps) = true then Oper.wp Try.prog o a w K Q else E := by
  obtain ⟨i0, hi, hz0, hz1, hz2⟩ := info_parts Try.info_int
  have hw : Region.wanted o (yielded ops a.tmps) = true := by simp [Region.wanted, hgd]
  rw [if_pos hw]
  refine wp_append_own _ s x 23 ho B 3 i0 (.int .i64 0) 1 8 under_ints hi hz0 hz1 hz2 rfl (by decide) v l.length (l.map (Value.int .i64)) hs hown ⟨g, 0, none⟩ 1 1 [.int .i64 c] hx rfl ?_ ?_ ?_ ?_ hB ?_
  · intro j u hj
    match j, hj with
    | 0, hj => simp at hj; subst hj; simpa [Addr.add] using hc
    | (n + 1), hj => simp at hj
  · intro u hu; simp at hu; subst hu; rfl
  · unfold maxLen; omega
  · omega
  · intro v' w' h1 h2 _
    refine h v' w' ?_ (hown.below h2 hB)
    unfold OwnI
    rw [List.length_append, List.map_append]
    exact h1
section
variable {w : World} {F : Nat → Prop} {br : Nat} {vl vk : Value} {st : Bool} {nf : Int} {d : Dk}
set_option maxHeartbeats 1000000 in
theorem refSize_in (h : RefIn w F br vl vk st nf d) : Calls Try.prog 60 #[.pointer (some ⟨br, 0, none⟩)] w fun e w' => e = .returned (.int .i64 (total d.files)) ∧ w = w' := by
  obtain ⟨x, c, rfl, _⟩ := h.row.shape
  have c4 := h.blk.cell 4
  simp at c4
  have hcnt := h.ok.count
  have htot : total d.files ≤ 1048576 := Nat.le_trans h.ok.fits h.ok.room2
  have H := Lib.hid h
  clear h
  go_enter Try.func60, Try.ntmps60
  go_wp2_with fail
  go_loop [3, 4] (fun v3 v4 => ∃ k : Nat, v4 = .int .i64 k ∧ k ≤ d.files.length ∧ v3 = .int .i64 (total (d.files.take k))) (fun _ v4 => d.files.length - (intOf v4).toNat)
  case atStart => exact ⟨0, rfl, Nat.zero_le _, rfl⟩
  case round =>
    obtain ⟨k, rfl, hk, rfl⟩ := hrel
    by_cases hlt : k < d.files.length
    · have ht1 := total_take_succ d.files k hlt
      have ht2 := total_take_le d.files (k + 1)
      obtain ⟨b, c', hv, hb, _, _, _, _, hc, _⟩ := H.out.at_ hlt
      injection hv with e1 e2 e3
      subst e1 e3
      have Ht1 := Lib.hid ht1
      obtain ⟨s, hs⟩ : ∃ s : ByteArray, s = ⟨d.files[k].2.data.toArray⟩ := ⟨_, rfl⟩
      have hsz : d.files[k].2.data.length = s.size := by rw [hs]; rfl
      rw [← hs] at hc
      rw [hsz] at ht1
      have Hsz := Lib.hid hsz
      obtain ⟨T, hT⟩ : ∃ T, total (d.files.take k) = T := ⟨_, rfl⟩
      rw [hT] at ht1 ⊢
      have HT := Lib.hid hT
      have hb2 : T + s.size ≤ 1048576 := by omega
      have hi2 : (k : Int) < d.files.length := by omega
      clear ht1 ht2 hs hsz hT e2
      go_wp2_with fail
      go_round
      case rel => exact ⟨k + 1, by go_num, by omega, by rw [Ht1.out, HT.out, Hsz.out]; go_num⟩
      case measure => simp [intOf]; omega
    · obtain rfl : k = d.files.length := by omega
      rw [List.take_length]
      go_wp2_with fail
      go_ret
      exact ⟨rfl, rfl⟩
set_option maxHeartbeats 1000000 in
theorem refNames_in (h : RefIn w F br vl vk st nf d) : Calls Try.prog 58 #[.pointer (some ⟨br, 0, none⟩)] w fun e w' => ∃ v, e = .returned v ∧ OwnS w' w.heap.size v (strs (names d.files)) ∧ Below w.heap.size w w' := by
  obtain ⟨x, c, rfl, _⟩ := h.row.shape
  have hcnt := h.ok.count
  have H := Lib.hid h
  have hbr := h.blk.lt
  have c4 := h.blk.cell 4
  simp at c4
  clear h
  go_enter Try.func58, Try.ntmps58
  go_wp2_with fail
  go_loopw [3, 4] (fun v3 v4 wr => ∃ k : Nat, v4 = .int .i64 k ∧ k ≤ d.files.length ∧ OwnS wr w.heap.size v3 ((strs (names d.files)).take k) ∧ Below w.heap.size w wr) (fun _ v4 _ => d.files.length - (intOf v4).toNat)
  case atStart => exact ⟨0, rfl, Nat.zero_le _, OwnS.nil _ _, Below.refl _ _⟩
  case round =>
    obtain ⟨k, rfl, hk, hown, hbe⟩ := hrel
    have hr := H.out.below hbe
    have hz := hbe.size
    have c4 := hr.blk.cell 4
    simp at c4
    have Hown := Lib.hid hown
    have Hbe := Lib.hid hbe
    have Hr := Lib.hid hr
    clear hown hbe hr
    by_cases hlt : k < d.files.length
    · obtain ⟨b, c', hv, hb, _, _, _, hc, _, _⟩ := Hr.out.at_ hlt
      injection hv with e1 e2 e3
      subst e1 e3
      obtain ⟨s, hs⟩ : ∃ s : ByteArray, s = ⟨d.files[k].1.toArray⟩ := ⟨_, rfl⟩
      rw [← hs] at hc
      have hi2 : (k : Int) < d.files.length := by omega
      have Hs := Lib.hid (strs_take_succ d.files k hlt)
      rw [← hs] at Hs
      have HL := Lib.hid (show ((strs (names d.files)).take k).length + 1 ≤ 8796093022208 by rw [List.length_take]; omega)
      clear hs e2
      go_wp2_with (at_builtin; refine wpList_append_str rfl (.tmp 14) (.tmp 23) rfl w.heap.size _ _ rfl (Hown.out.alloc _) wr.heap.size rfl s ((Blk.alloc_new wr _ _).cell 0) HL.out (by simp; omega) ?_; intro v2 w2 hown hbel; have Hown2 := Lib.hid hown; have Hbel2 := Lib.hid ((Hbe.out.alloc hz _).trans hbel); clear hown hbel)
      go_roundw
      case rel => exact ⟨k + 1, by go_num, by omega, by rw [Hs.out]; exact Hown2.out, Hbel2.out⟩
      case measure => simp [intOf]; omega
    · obtain rfl : k = d.files.length := by omega
      go_wp2_with fail
      go_ret
      have ho := Hown.out
      rw [List.take_of_length_le (by simp [strs, names])] at ho
      exact ⟨_, rfl, ho, Hbe.out⟩
set_option maxHeartbeats 1000000 in
theorem refUnsynced_in (h : RefIn w F br vl vk st nf d) : Calls Try.prog 59 #[.pointer (some ⟨br, 0, none⟩)] w fun e w' => ∃ v, e = .returned v ∧ OwnI w' w.heap.size v d.unsynced ∧ Below w.heap.size w w' := by
  obtain ⟨x, c, rfl, _⟩ := h.row.shape
  have hcnt := h.ok.count
  have H := Lib.hid h
  have hbr := h.blk.lt
  have c4 := h.blk.cell 4
  simp at c4
  clear h
  go_enter Try.func59, Try.ntmps59
  go_wp2_with fail
  go_loopw [3, 4] (fun v3 v4 wr => ∃ k : Nat, v4 = .int .i64 k ∧ k ≤ d.files.length ∧ OwnI wr w.heap.size v3 (d.unsynced.take k) ∧ Below w.heap.size w wr) (fun _ v4 _ => d.files.length - (intOf v4).toNat)
  case atStart => exact ⟨0, rfl, Nat.zero_le _, OwnI.nil _ _, Below.refl _ _⟩
  case round =>
    obtain ⟨k, rfl, hk, hown, hbe⟩ := hrel
    have hr := H.out.below hbe
    have hz := hbe.size
    have c4 := hr.blk.cell 4
    simp at c4
    have Hown := Lib.hid hown
    have Hbe := Lib.hid hbe
    have Hr := Lib.hid hr
    clear hown hbe hr
    by_cases hlt : k < d.files.length
    · obtain ⟨b, c', hv, hb, _, _, _, _, hc1, hc2⟩ := H.out.at_ hlt
      replace hc1 := (Hbe.out.cell (p := ⟨b, k * 3 + 1, none⟩) hb).trans hc1
      replace hc2 := (Hbe.out.cell (p := ⟨b, k * 3 + 2, none⟩) hb).trans hc2
      injection hv with e1 e2 e3
      subst e1 e3
      have hsf := Hr.out.ok.safe _ (List.getElem_mem hlt)
      have hdl := data_le (List.getElem_mem hlt)
      have hft := Hr.out.ok.fits
      have hr2 := Hr.out.ok.room2
      obtain ⟨s, hs⟩ : ∃ s : ByteArray, s = ⟨d.files[k].2.data.toArray⟩ := ⟨_, rfl⟩
      obtain ⟨n, hn⟩ : ∃ n : Nat, n = d.files[k].2.safe := ⟨_, rfl⟩
      have hsz : d.files[k].2.data.length = s.size := by rw [hs]; rfl
      rw [← hs] at hc1
      rw [← hn] at hc2 hsf
      rw [hsz] at hsf hdl
      have hi2 : (k : Int) < d.files.length := by omega
      have hsb : s.size ≤ 1048576 := by omega
      have hq : IntKind.i64.wrap ((s.size : Int) - n) = (s.size : Int) - n := IntWalk.i64_in _ ⟨by omega, by omega⟩
      have Hs := Lib.hid (unsynced_succ d k hlt)
      rw [hsz, ← hn] at Hs
      have HL := Lib.hid (show (d.unsynced.take k).length + 1 ≤ 8796093022208 by rw [List.length_take]; omega)
      have HC := Lib.hid (show ((wr.alloc (.cells #[.int .i64 ((s.size : Int) - n)] 3 (0, 0))).drew).cell? ⟨wr.heap.size, 0, none⟩ = some (.int .i64 ((s.size : Int) - n)) from (Blk.alloc_new wr 3 #[.int .i64 ((s.size : Int) - n)]).cell 0)
      have HZ := Lib.hid (show w.heap.size ≤ ((wr.alloc (.cells #[.int .i64 ((s.size : Int) - n)] 3 (0, 0))).drew).heap.size by simp; omega)
      clear hs e2 hn hsz hdl hft hr2
      go_wp2_with fail
      go_region_held3 (fun w' => w'.cell? ⟨br, 4, none⟩ = some (.slice (some ⟨b, 0, none⟩) d.files.length c) ∧ w'.cell? ⟨b, k * 3 + 1, none⟩ = some (.string s) ∧ w'.cell? ⟨b, k * 3 + 2, none⟩ = some (.int .i64 n))
        (first | go_keep | ((refine ⟨(hbel.cell (p := ⟨br, 4, none⟩) hbr).trans ?_, (hbel.cell (p := ⟨b, k * 3 + 1, none⟩) hb).trans ?_, (hbel.cell (p := ⟨b, k * 3 + 2, none⟩) hb).trans ?_⟩ <;> go_keep)))
        ((refine step_append_int rfl (.tmp 14) (.tmp 33) rfl w.heap.size _ _ rfl (World.ownsRow.drew (Hown.out.alloc _)) wr.heap.size rfl ((s.size : Int) - n) HC.out HL.out HZ.out ?_; intro v2 w2 hown hbel))
      have Hown2 := Lib.hid hown
      have Hbel2 := Lib.hid (((Hbe.out.alloc hz _).drew).trans hbel)
      clear hown hbel
      go_wp2_with fail
      go_roundw
      case rel => exact ⟨k + 1, by go_num, by omega, by rw [Hs.out]; exact Hown2.out, Hbel2.out⟩
      case measure => simp [intOf]; omega
    · obtain rfl : k = d.files.length := by omega
      go_wp2_with fail
      go_ret
      have ho := Hown.out
      rw [List.take_of_length_le (by simp [Dk.unsynced])] at ho
      exact ⟨_, rfl, ho, Hbe.out⟩
end
end Go.Proofs.Ytnngdflamkdgaaa

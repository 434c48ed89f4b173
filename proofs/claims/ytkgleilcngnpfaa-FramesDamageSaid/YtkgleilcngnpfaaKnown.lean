/- Helpers of the statements of layer 4: two lists of texts held against each other; how many bytes 2; the chapter's example. -/
import Derived.Test.YtkgleilcngnpfaaFrames2
import Derived.Test.YtkgleilcngnpfaaResync2
namespace Go.Proofs.Ytkgleilcngnpfaa
open Go.RowKit

theorem RdS.form {w : World} {v : Value} {l : List ByteArray} (h : RdS w v l) : ∃ x c, v = .slice x l.length c := by
  rcases h with ⟨c, rfl, rfl⟩ | ⟨b, off, c, rfl, _⟩
  · exact ⟨_, _, rfl⟩
  · exact ⟨_, _, rfl⟩
theorem take_eq_succ (la lb : List ByteArray) (i : Nat) (ha : i < la.length) (hb : i < lb.length) (h : la.take i = lb.take i) (e : la[i] = lb[i]) : la.take (i + 1) = lb.take (i + 1) := by
  rw [List.take_succ_eq_append_getElem ha, List.take_succ_eq_append_getElem hb, h, e]
theorem text_beq (a b : ByteArray) : (a.toList == b.toList) = decide (a = b) := by
  rw [ByteArray.toList_eq, ByteArray.toList_eq]
  by_cases h : a = b
  · subst h; simp
  · rw [decide_eq_false h, beq_eq_false_iff_ne]
    exact fun e => h (bytes_ext e)

set_option maxHeartbeats 1000000 in
theorem sameTexts_any (va vb : Value) (la lb : List ByteArray) (w : World) (ha : RdS w va la) (hb : RdS w vb lb) (hm : la.length ≤ 9223372036854775807) (hm2 : lb.length ≤ 9223372036854775807) :
    Calls Try.prog 21 #[va, vb] w fun e w' => e = .returned (.bool (decide (la = lb))) ∧ Below w.heap.size w w' := by
  by_cases hl : la.length = lb.length
  · by_cases h0 : la.length = 0
    · obtain ⟨xa, ca, rfl⟩ := ha.form
      obtain ⟨xb, cb, rfl⟩ := hb.form
      have hd := Lib.hid (show decide (la = lb) = true by
        rw [List.length_eq_zero_iff.1 h0, List.length_eq_zero_iff.1 (show lb.length = 0 by omega)]; simp)
      rw [← hl, h0]
      clear ha hb hl
      go_enter Try.func21, Try.ntmps21
      go_wp2_with fail
      go_loop [5] (fun i => i = .int .i64 0) (fun _ => 0)
      case atStart => rfl
      case round =>
        subst hrel
        go_wp2_with fail
        go_ret
        exact ⟨by rw [hd.out]; rfl, Below.refl _ _⟩
    · obtain ⟨ba, oa, ca, rfl, _, hca⟩ : ∃ b off c, va = .slice (some ⟨b, off, none⟩) la.length c ∧ b < w.heap.size ∧ ∀ j (hj : j < la.length), w.cell? ⟨b, off + j, none⟩ = some (.string la[j]) := by
        rcases ha with ⟨c, _, h⟩ | h
        · rw [h] at h0; exact absurd rfl h0
        · exact h
      obtain ⟨bb, ob, cb, rfl, _, hcb⟩ : ∃ b off c, vb = .slice (some ⟨b, off, none⟩) lb.length c ∧ b < w.heap.size ∧ ∀ j (hj : j < lb.length), w.cell? ⟨b, off + j, none⟩ = some (.string lb[j]) := by
        rcases hb with ⟨c, _, h⟩ | h
        · rw [h] at hl; exact absurd hl h0
        · exact h
      have Hl := Lib.hid hl
      have Hca := Lib.hid hca
      have Hcb := Lib.hid hcb
      rw [← hl]
      clear hca hcb hl
      go_enter Try.func21, Try.ntmps21
      go_wp2_with fail
      go_loopw [5] (fun i wr => ∃ k : Nat, i = .int .i64 k ∧ k ≤ la.length ∧ la.take k = lb.take k ∧ ∃ n, wr = w.drewN n) (fun i _ => la.length - (intOf i).toNat)
      case atStart => exact ⟨0, rfl, Nat.zero_le _, by simp, 0, rfl⟩
      case round =>
        obtain ⟨k, rfl, hk, htk, nd, rfl⟩ := hrel
        have Htk := Lib.hid htk
        clear htk
        by_cases hlt : k < la.length
        · have c1 := Hca.out k hlt
          have c2 := Hcb.out k (by rw [← Hl.out]; exact hlt)
          have i1 : (k : Int) < la.length := by omega
          by_cases heq : la[k] = lb[k]'(by rw [← Hl.out]; exact hlt)
          · have hq := text_beq la[k] (lb[k]'(by rw [← Hl.out]; exact hlt))
            rw [decide_eq_true heq] at hq
            have Heq := Lib.hid heq
            clear heq
            go_wp2_with fail
            go_quiet (fail)
            go_wp2_with fail
            go_roundw
            case rel => exact ⟨k + 1, by go_num, by omega, take_eq_succ la lb k hlt (by rw [← Hl.out]; exact hlt) Htk.out Heq.out, nd + nq, rfl⟩
            case measure => simp [intOf]; omega
          · have hq := text_beq la[k] (lb[k]'(by rw [← Hl.out]; exact hlt))
            rw [decide_eq_false heq] at hq
            have hd := Lib.hid (show decide (la = lb) = false by
              rw [decide_eq_false]
              intro h
              exact heq (by simp only [h]))
            clear heq
            go_wp2_with fail
            go_quiet (fail)
            go_wp2_with fail
            go_ret
            exact ⟨by rw [hd.out]; rfl, below_drewN (below_drewN (Below.refl _ _) _) _⟩
        · have hd := Lib.hid (show decide (la = lb) = true by
            rw [decide_eq_true]
            have h := Htk.out
            rwa [List.take_of_length_le (by omega), List.take_of_length_le (by rw [← Hl.out]; omega)] at h)
          go_wp2_with fail
          go_ret
          exact ⟨by rw [hd.out]; rfl, below_drewN (Below.refl _ _) _⟩
  · obtain ⟨xa, ca, rfl⟩ := ha.form
    obtain ⟨xb, cb, rfl⟩ := hb.form
    have hd := Lib.hid (show decide (la = lb) = false by
      rw [decide_eq_false]; rintro rfl; exact hl rfl)
    have hne : ((la.length : Int) != lb.length) = true := by rw [bne_iff_ne]; omega
    clear ha hb hl
    go_enter Try.func21, Try.ntmps21
    go_wp2_with fail
    go_ret
    exact ⟨by rw [hd.out]; rfl, Below.refl _ _⟩

/-- How many bytes 2 a text has. -/
def twosOf (l : List UInt8) : Nat := l.count 2

set_option maxHeartbeats 400000 in
theorem twos_any (s : ByteArray) (w : World) (hm : s.size ≤ 9223372036854775807) :
    Calls Try.prog 23 #[.string s] w fun e w' => e = .returned (.int .i64 (twosOf s.data.toList)) ∧ Below w.heap.size w w' := by
  go_enter Try.func23, Try.ntmps23
  go_wp2_with fail
  go_loop [3, 4] (fun n i => ∃ k : Nat, k ≤ s.size ∧ i = .int .i64 k ∧ n = .int .i64 (twosOf (s.data.toList.take k))) (fun _ i => s.size - (intOf i).toNat)
  case atStart => exact ⟨0, Nat.zero_le _, rfl, rfl⟩
  case round =>
    obtain ⟨k, hk, rfl, rfl⟩ := hrel
    have hc : twosOf (s.data.toList.take k) ≤ k := by
      unfold twosOf
      exact Nat.le_trans List.count_le_length (List.length_take_le _ _)
    by_cases hlt : k < s.size
    · have hs := take_snoc s k hlt
      by_cases h2 : s[k] = 2
      · have e : twosOf (s.data.toList.take (k + 1)) = twosOf (s.data.toList.take k) + 1 := by
          rw [hs, h2]; unfold twosOf; rw [List.count_append]; rfl
        have E := Lib.hid e
        have hq : ((s[k].toNat : Int) == 2) = true := by rw [h2]; rfl
        clear hs e h2
        generalize twosOf (s.data.toList.take k) = m at *
        go_wp2_with fail
        go_round
        case rel => exact ⟨k + 1, by omega, by go_num, by rw [E.out]; go_num⟩
        case measure => simp [intOf]; omega
      · have e : twosOf (s.data.toList.take (k + 1)) = twosOf (s.data.toList.take k) := by
          rw [hs]; unfold twosOf; rw [List.count_append, List.count_singleton, if_neg (by simpa using h2)]; rfl
        have E := Lib.hid e
        have hq : ((s[k].toNat : Int) == 2) = false := by
          rw [beq_eq_false_iff_ne]; intro h
          exact h2 (UInt8.toNat_inj.1 (by have e2 : (2 : UInt8).toNat = 2 := rfl; omega))
        clear hs e h2
        generalize twosOf (s.data.toList.take k) = m at *
        go_wp2_with fail
        go_round
        case rel => exact ⟨k + 1, by omega, by go_num, by rw [E.out]⟩
        case measure => simp [intOf]; omega
    · have e : s.data.toList.take k = s.data.toList := List.take_of_length_le (by simp; omega)
      have E := Lib.hid e
      clear e
      go_wp2_with fail
      go_ret
      exact ⟨by rw [E.out]; rfl, Below.refl _ _⟩

theorem frame_a : Frm.frame [97] = [2, 0, 1, 97, 0, 98, 0, 98, 3] := by decide +kernel
/-- 'Next' at a place, on whatever text. -/
theorem next_at (l : List UInt8) (k : Nat) (v : Value) (hl : l.length ≤ 1000) (hk : k ≤ l.length) (hv : nextR l k = v) (w : World) :
    Calls Try.prog 15 #[.string ⟨l.toArray⟩, .int .i64 k] w fun e w' => e = .returned v ∧ Below w.heap.size w w' := by
  subst hv
  exact next_in ⟨l.toArray⟩ k w (by show l.toArray.size ≤ _; simp; omega) (by show k ≤ l.toArray.size; simpa using hk)
theorem resync_at (l : List UInt8) (k : Int) (r : Nat) (hl : l.length ≤ 1000) (hk : -100 ≤ k ∧ k ≤ 100) (hr : Frm.resync l k.toNat = r) (w : World) :
    Calls Try.prog 17 #[.string ⟨l.toArray⟩, .int .i64 k] w fun e w' => e = .returned (.int .i64 r) ∧ Below w.heap.size w w' := by
  subst hr
  exact resync_any ⟨l.toArray⟩ k w (by show l.toArray.size ≤ _; simp; omega) (by omega)

theorem known_n0 : nextR [2, 0, 1, 97, 0, 98, 0, 98, 3] 0 = .tuple #[.string ⟨#[97]⟩, .int .i64 9, .bool true] := by
  unfold nextR
  rw [show Frm.nextAt (List.drop 0 [2, 0, 1, 97, 0, 98, 0, 98, 3]) = some [97] from by decide +kernel]
  rfl
theorem known_n1 : nextR [2, 0, 1, 97, 0, 98, 0, 98, 3] 1 = .tuple #[.string ⟨#[]⟩, .int .i64 0, .bool false] := by
  unfold nextR
  rw [show Frm.nextAt (List.drop 1 [2, 0, 1, 97, 0, 98, 0, 98, 3]) = none from by decide +kernel]

theorem known_text : ((ByteArray.mk #[2, 0, 1, 97, 0, 98, 0, 98, 3]) ++ (ByteArray.mk #[2, 0, 1, 97, 0, 98, 0, 98, 3]) ++ (ByteArray.mk #[2, 0, 1, 97, 0, 98, 0, 98, 3]).extract 0 4).data.toList = [2, 0, 1, 97, 0, 98, 0, 98, 3, 2, 0, 1, 97, 0, 98, 0, 98, 3, 2, 0, 1, 97] := by
  rw [data_append, data_append, extract_list]
  rfl
theorem known_whole (W : World) :
    Calls Try.prog 19 #[.string ((ByteArray.mk #[2, 0, 1, 97, 0, 98, 0, 98, 3]) ++ (ByteArray.mk #[2, 0, 1, 97, 0, 98, 0, 98, 3]) ++ (ByteArray.mk #[2, 0, 1, 97, 0, 98, 0, 98, 3]).extract 0 4)] W
      fun e w' => (∃ v, e = .returned (.tuple #[v, .int .i64 18]) ∧ OwnS w' W.heap.size v [⟨#[97]⟩, ⟨#[97]⟩]) ∧ Below W.heap.size W w' := by
  have hs : ((ByteArray.mk #[2, 0, 1, 97, 0, 98, 0, 98, 3]) ++ (ByteArray.mk #[2, 0, 1, 97, 0, 98, 0, 98, 3]) ++ (ByteArray.mk #[2, 0, 1, 97, 0, 98, 0, 98, 3]).extract 0 4).size = 22 := by
    rw [← len_list, known_text]
    rfl
  have h := whole_any ((ByteArray.mk #[2, 0, 1, 97, 0, 98, 0, 98, 3]) ++ (ByteArray.mk #[2, 0, 1, 97, 0, 98, 0, 98, 3]) ++ (ByteArray.mk #[2, 0, 1, 97, 0, 98, 0, 98, 3]).extract 0 4) W (by rw [hs]; omega)
  rw [known_text, hs, show Frm.whole 22 [2, 0, 1, 97, 0, 98, 0, 98, 3, 2, 0, 1, 97, 0, 98, 0, 98, 3, 2, 0, 1, 97] = ([[97], [97]], 18) from by decide +kernel] at h
  exact h

theorem known_same (xv : Option Addr) (cv : Nat) (W : World) (h : RdS W (.slice xv 2 cv) [⟨#[97]⟩, ⟨#[97]⟩]) :
    Calls Try.prog 21 #[.slice xv 2 cv, .slice (some ⟨W.heap.size, 0, none⟩) 2 2] (W.alloc (.cells #[.string ⟨#[97]⟩, .string ⟨#[97]⟩] 9))
      fun e w' => e = .returned (.bool true) ∧ Below (W.alloc (.cells #[.string ⟨#[97]⟩, .string ⟨#[97]⟩] 9)).heap.size (W.alloc (.cells #[.string ⟨#[97]⟩, .string ⟨#[97]⟩] 9)) w' := by
  have h2 : RdS (W.alloc (.cells #[.string ⟨#[97]⟩, .string ⟨#[97]⟩] 9)) (.slice (some ⟨W.heap.size, 0, none⟩) 2 2) [⟨#[97]⟩, ⟨#[97]⟩] := by
    refine .inr ⟨W.heap.size, 0, 2, rfl, by simp, fun j hj => ?_⟩
    rw [(Blk.alloc_new W _ _).cell]
    have hj2 : j < 2 := hj
    obtain rfl | rfl : j = 0 ∨ j = 1 := by omega
    · rfl
    · rfl
  exact sameTexts_any _ _ _ _ _ (h.below ((Below.refl _ _).alloc (Nat.le_refl _) _)) h2 (by decide) (by decide)
theorem known_text2 : ((ByteArray.mk #[120, 120]) ++ (ByteArray.mk #[2, 0, 1, 97, 0, 98, 0, 98, 3])).data.toList = [120, 120, 2, 0, 1, 97, 0, 98, 0, 98, 3] := by
  rw [data_append]
  rfl
theorem known_resync1 (W : World) : Calls Try.prog 17 #[.string ((ByteArray.mk #[120, 120]) ++ (ByteArray.mk #[2, 0, 1, 97, 0, 98, 0, 98, 3])), .int .i64 (-5)] W
    fun e w' => e = .returned (.int .i64 2) ∧ Below W.heap.size W w' := by
  have h := resync_any ((ByteArray.mk #[120, 120]) ++ (ByteArray.mk #[2, 0, 1, 97, 0, 98, 0, 98, 3])) (-5) W (by rw [← len_list, known_text2]; decide) (by decide)
  rw [known_text2, show Frm.resync [120, 120, 2, 0, 1, 97, 0, 98, 0, 98, 3] (-5 : Int).toNat = 2 from by decide +kernel] at h
  exact h
theorem known_resync2 (W : World) : Calls Try.prog 17 #[.string ((ByteArray.mk #[120, 120]) ++ (ByteArray.mk #[2, 0, 1, 97, 0, 98, 0, 98, 3])), .int .i64 3] W
    fun e w' => e = .returned (.int .i64 11) ∧ Below W.heap.size W w' := by
  have h := resync_any ((ByteArray.mk #[120, 120]) ++ (ByteArray.mk #[2, 0, 1, 97, 0, 98, 0, 98, 3])) 3 W (by rw [← len_list, known_text2]; decide) (by decide)
  rw [known_text2, show Frm.resync [120, 120, 2, 0, 1, 97, 0, 98, 0, 98, 3] (3 : Int).toNat = 11 from by decide +kernel] at h
  exact h

set_option maxRecDepth 100000 in
set_option maxHeartbeats 1000000 in
theorem known_any (w : World) :
    Calls Try.prog 12 #[] w fun e w' => e = .returned (.bool true) ∧ Below w.heap.size w w' := by
  have hf := fun W : World => frame_short ⟨#[97]⟩ W (by show (1 : Nat) ≤ 16384; omega)
  rw [show (ByteArray.mk #[97]).data.toList = [97] from rfl, frame_a] at hf
  have Hf := Lib.hid hf
  clear hf
  go_enter Try.func12, Try.ntmps12
  go_wp2_with fail
  refine (Hf.out _).mono ?_
  rintro e w1 ⟨rfl, hb1⟩
  have Hb1 := Lib.hid hb1
  clear hb1
  go_wp2_with fail
  refine (next_at [2, 0, 1, 97, 0, 98, 0, 98, 3] 0 (.tuple #[.string ⟨#[97]⟩, .int .i64 9, .bool true]) (by decide) (by decide) known_n0 _).mono ?_
  rintro e w2 ⟨rfl, hb2⟩
  have Hb2 := Lib.hid (Hb1.out.trans (hb2.mono Hb1.out.size))
  clear hb2 Hb1
  go_wp2_with fail
  refine (next_at [2, 0, 1, 97, 0, 98, 0, 98, 3] 1 (.tuple #[.string ⟨#[]⟩, .int .i64 0, .bool false]) (by decide) (by decide) known_n1 _).mono ?_
  rintro e w3 ⟨rfl, hb3⟩
  have Hb3 := Lib.hid (Hb2.out.trans (hb3.mono Hb2.out.size))
  clear hb3 Hb2
  go_wp2_with fail
  refine (known_whole _).mono ?_
  rintro e w4 ⟨⟨v4, rfl, hown4⟩, hb4⟩
  have hrd := hown4.rd
  obtain ⟨xv, cv, rfl⟩ := hrd.form
  have Hrd := Lib.hid hrd
  have Hb4 := Lib.hid (Hb3.out.trans (hb4.mono Hb3.out.size))
  have hz4 := Hb4.out.size
  clear hb4 Hb3 hown4 hrd
  go_wp2_with (first
    | (refine wpList_make_full_bytes rfl _ _ rfl w.heap.size .i64 .i64 _ _ 16385 rfl rfl rfl rfl (by omega) hz4 ?_; intro v5 w5 hown0 hbel; obtain ⟨Z, hZ, hown⟩ : ∃ Z : List UInt8, Z.length = 16385 ∧ OwnB w5 w.heap.size v5 Z := ⟨_, List.length_replicate, hown0⟩; clear hown0; have HZ := Lib.hid hZ; clear hZ; have Hown5 := Lib.hid hown; have Hb5 := Lib.hid (Hb4.out.trans (hbel.mono hz4)); have Hrd5 := Lib.hid (Hrd.out.below hbel); clear hown hbel)
    | (refine wpList_own_text rfl (.tmp 46) rfl w.heap.size _ _ rfl Hown5.out ?_))
  refine (frame_long ⟨Z.toArray⟩ _ (by show 16384 < Z.toArray.size; rw [List.size_toArray, HZ.out]; omega)).mono ?_
  rintro e w6 ⟨rfl, hb6⟩
  have Hrd6 := Lib.hid (Hrd5.out.below hb6)
  have Hb6 := Lib.hid (Hb5.out.trans (hb6.mono Hb5.out.size))
  have hz6 := Hb6.out.size
  clear hb6 Hrd5 Hb5 Hown5
  go_wp2_with fail
  refine (known_same xv cv _ Hrd6.out).mono ?_
  rintro e w7 ⟨rfl, hb7⟩
  have Hb7 := Lib.hid ((Hb6.out.alloc hz6 _).trans (hb7.mono (by simp; omega)))
  clear hb7 Hb6
  go_wp2_with fail
  refine (known_resync1 _).mono ?_
  rintro e w8 ⟨rfl, hb8⟩
  have Hb8 := Lib.hid (Hb7.out.trans (hb8.mono Hb7.out.size))
  clear hb8 Hb7
  go_wp2_with fail
  refine (known_resync2 _).mono ?_
  rintro e w9 ⟨rfl, hb9⟩
  have Hb9 := Lib.hid (Hb8.out.trans (hb9.mono Hb8.out.size))
  clear hb9 Hb8
  go_wp2_with fail
  go_ret
  exact ⟨rfl, Hb9.out⟩
end Go.Proofs.Ytkgleilcngnpfaa

/- The document's own functions on frames: the walks. -/
import Derived.Test.YtkgleilcngnpfaaFrames2
namespace Go.Proofs.Ytkgleilcngnpfaa
open Go.RowKit

set_option maxHeartbeats 1000000 in
theorem ref_frame_short (p : ByteArray) (w : World) (hp : p.size ≤ 16384) :
    Calls Try.prog 14 #[.string p] w fun e w' => e = .returned (.tuple #[.string ⟨(Frm.frame p.data.toList).toArray⟩, .int .i64 0]) ∧ Below w.heap.size w w' := by
  have hlen : p.data.toList.length = p.size := by simp
  have h1 : ¬ ((16384 : Int) < p.size) := by omega
  have hm : p.size ≤ maxLen := by unfold maxLen; omega
  have Hlen := Lib.hid hlen
  have h4 : (ByteArray.mk (Adl.four (Adl.sum p.data.toList)).toArray).size = 4 := rfl
  have H4 := Lib.hid h4
  have Hnil := Lib.hid (OwnB.nil w w.heap.size)
  clear hlen h4
  go_enter Try.func14, Try.ntmps14
  go_wp2_with (first
    | (refine wpList_append_bytes rfl (.tmp 10) (.tmp 17) rfl w.heap.size _ [] rfl (Hnil.out.alloc _) w.heap.size 3 3 rfl [2, UInt8.ofNat (p.size / 256), UInt8.ofNat (p.size % 256)] rfl ?k1 (by simp) (by simp) ?_; (case k1 => exact three_cells w p.size hp); intro v2 w2 hown hbel; have Hown2 := Lib.hid hown; have Hbel2 := Lib.hid (((Below.refl w.heap.size w).alloc (Nat.le_refl _) _).trans hbel); have hz2 := Hbel2.out.size; clear hown hbel)
    | (refine wpList_append_text rfl (.tmp 19) (.tmp 20) rfl w.heap.size _ _ rfl Hown2.out p rfl (by simp; omega) hz2 ?_; intro v3 w3 hown hbel; have Hown3 := Lib.hid hown; have Hbel3 := Lib.hid (Hbel2.out.trans hbel); have hz3 := Hbel3.out.size; clear hown hbel Hown2 Hbel2))
  refine (ref_sum_any p _ hm).mono ?_
  rintro e w4 ⟨rfl, hb4⟩
  have Hown4 := Lib.hid (Hown3.out.kept hb4)
  have Hbel4 := Lib.hid (Hbel3.out.trans (hb4.mono hz3))
  have hz4 := Hbel4.out.size
  clear hb4 Hown3 Hbel3
  go_wp2_with fail
  refine (ref_bytes_any _ _ (Adl.sum_in _).1 (Adl.sum_in _).2).mono ?_
  rintro e w5 ⟨rfl, hb5⟩
  have Hown5 := Lib.hid (Hown4.out.kept hb5)
  have Hbel5 := Lib.hid (Hbel4.out.trans (hb5.mono hz4))
  have hz5 := Hbel5.out.size
  clear hb5 Hown4 Hbel4
  go_wp2_with (first
    | (refine wpList_append_text rfl (.tmp 22) (.tmp 25) rfl w.heap.size _ _ rfl Hown5.out _ rfl (by rw [H4.out]; simp; omega) hz5 ?_; intro v6 w6 hown hbel; have Hown6 := Lib.hid hown; have Hbel6 := Lib.hid (Hbel5.out.trans hbel); have hz6 := Hbel6.out.size; clear hown hbel Hown5 Hbel5)
    | (refine wpList_append_bytes rfl (.tmp 27) (.tmp 28) rfl w.heap.size _ _ rfl (Hown6.out.alloc _) w6.heap.size 1 1 rfl [3] rfl (one_cell w6 3 3 rfl) (by have := Hlen.out; simp only [List.length_append, List.length_cons, List.length_nil, Frm.four_length]; omega) (by simp; omega) ?_; intro v7 w7 hown hbel; have Hown7 := Lib.hid hown; have Hbel7 := Lib.hid ((Hbel6.out.alloc hz6 _).trans hbel); have hz7 := Hbel7.out.size; clear hown hbel Hown6 Hbel6)
    | (refine wpList_own_text rfl (.tmp 29) rfl w.heap.size _ _ rfl Hown7.out ?_))
  go_ret2
  exact ⟨by rw [Frm.frame_eq, Hlen.out]; rfl, Hbel7.out⟩

set_option maxHeartbeats 400000 in
theorem ref_frame_long (p : ByteArray) (w : World) (hp : 16384 < p.size) :
    Calls Try.prog 14 #[.string p] w fun e w' => e = .returned (.tuple #[.string ⟨#[]⟩, .int .i64 3]) ∧ Below w.heap.size w w' := by
  have h1 : (16384 : Int) < p.size := by omega
  go_enter Try.func14, Try.ntmps14
  go_wp2_with fail
  go_ret2
  exact ⟨rfl, Below.refl _ _⟩

set_option maxHeartbeats 400000 in
theorem ref_next_out (s : ByteArray) (k : Int) (w : World) (hm : s.size ≤ 140737488355328) (h : k < 0 ∨ (s.size : Int) < k + 8) :
    Calls Try.prog 16 #[.string s, .int .i64 k] w fun e w' => e = .returned (.tuple #[.string ⟨#[]⟩, .int .i64 0, .bool false]) ∧ Below w.heap.size w w' := by
  by_cases h0 : k < 0
  · go_enter Try.func16, Try.ntmps16
    go_wp2_with fail
    go_ret3
    exact ⟨rfl, Below.refl _ _⟩
  · have h1 : (s.size : Int) - 8 < k := by omega
    go_enter Try.func16, Try.ntmps16
    go_wp2_with fail
    go_ret3
    exact ⟨rfl, Below.refl _ _⟩

theorem at_list (s : ByteArray) (i : Nat) (h : i < s.size) : s.data.toList[i]? = some s[i] := by
  rw [List.getElem?_eq_getElem (show i < s.data.toList.length by simpa using h)]; rfl
theorem ne_of_at (s : ByteArray) (i : Nat) (h : i < s.size) (c : UInt8) (hne : s.data.toList[i]? ≠ some c) : ((s[i].toNat : Int) != c.toNat) = true := by
  rw [at_list s i h] at hne
  simp only [bne_iff_ne, ne_eq]
  intro e
  exact hne (by rw [UInt8.toNat_inj.1 (show s[i].toNat = c.toNat by omega)])
theorem eq_of_at (s : ByteArray) (i : Nat) (h : i < s.size) (c : UInt8) (he : s.data.toList[i]? = some c) : ((s[i].toNat : Int) != c.toNat) = false := by
  rw [at_list s i h] at he
  injection he with he
  rw [he]; simp

set_option maxHeartbeats 1000000 in
theorem ref_next_in (s : ByteArray) (k : Nat) (w : World) (hm : s.size ≤ 140737488355328) (hk : k ≤ s.size) :
    Calls Try.prog 16 #[.string s, .int .i64 k] w fun e w' => e = .returned (nextR s.data.toList k) ∧ Below w.heap.size w w' := by
  have hdl : (s.data.toList.drop k).length = s.size - k := by simp
  by_cases h8 : s.size < k + 8
  · have hn : nextR s.data.toList k = .tuple #[.string ⟨#[]⟩, .int .i64 0, .bool false] := by
      unfold nextR; rw [Frm.nextAt_short _ (by rw [hdl]; omega)]
    rw [hn]
    exact ref_next_out s k w hm (.inr (by omega))
  · have hf := Frm.nextAt_fields (s.data.toList.drop k)
    rw [hdl] at hf
    simp only [List.getElem?_drop, List.drop_drop] at hf
    by_cases h2 : s.data.toList[k]? = some 2
    · have hE : (256 : Int) * (s[k + 1].toNat : Int) + (s[k + 2].toNat : Int) = Frm.len16 (s.data.toList.drop k) := by
        unfold Frm.len16
        rw [List.getElem?_drop, List.getElem?_drop, at_list s (k + 1) (by omega), at_list s (k + 2) (by omega)]
        simp only [Option.getD_some, Int.natCast_add, Int.natCast_mul]
        omega
      have heq : ((s[k].toNat : Int) != 2) = false := eq_of_at s k (by omega) 2 h2
      have h1 : ¬ ((s.size : Int) - 8 < k) := by omega
      have hnb : Frm.len16 (s.data.toList.drop k) ≤ 65535 := by
        have b1 := s[k + 1].toNat_lt
        have b2 := s[k + 2].toNat_lt
        omega
      generalize Frm.len16 (s.data.toList.drop k) = n at *
      rw [show 3 + n = n + 3 by omega, show 7 + n = n + 7 by omega] at hf
      have i1 : ((k : Int) + 1).toNat = k + 1 := by omega
      have i2 : ((k : Int) + 2).toNat = k + 2 := by omega
      have i3 : (k : Int) + 1 < s.size := by omega
      have i4 : (k : Int) + 2 < s.size := by omega
      have i5 : IntKind.i64.wrap ((k : Int) + 1) = (k : Int) + 1 := IntWalk.i64_in _ (by omega)
      have i6 : IntKind.i64.wrap ((k : Int) + 2) = (k : Int) + 2 := IntWalk.i64_in _ (by omega)
      have i9 : (0 : Int) ≤ (k : Int) + 1 := by omega
      have i10 : (0 : Int) ≤ (k : Int) + 2 := by omega
      have i7 : k + 1 < s.size := by omega
      have i8 : k + 2 < s.size := by omega
      have Hf := Lib.hid hf
      have H2 := Lib.hid h2
      clear hf h2 hdl
      by_cases c1 : n ≤ 16384
      · have c1' : (n : Int) ≤ 16384 := by omega
        by_cases c2 : k + n + 8 ≤ s.size
        · have c2' : (k : Int) + 3 + n + 5 ≤ s.size := by omega
          have j1 : k + 3 + n + 4 < s.size := by omega
          by_cases c3 : s.data.toList[k + (n + 7)]? = some 3
          · have c3' : ((s[k + 3 + n + 4].toNat : Int) != 3) = false := eq_of_at s (k + 3 + n + 4) j1 3 (by rw [show k + 3 + n + 4 = k + (n + 7) by omega]; exact c3)
            have hpl : (s.extract (k + 3) (k + 3 + n)).data.toList = (s.data.toList.drop (k + 3)).take n := by
              rw [extract_list]; congr 1; omega
            have hps : (s.extract (k + 3) (k + 3 + n)).size ≤ maxLen := by rw [ByteArray.size_extract]; unfold maxLen; omega
            have hpn : ((s.data.toList.drop (k + 3)).take n).length = n := by simp; omega
            have hpe : s.extract (k + 3) (k + 3 + n) = ⟨((s.data.toList.drop (k + 3)).take n).toArray⟩ := bytes_ext (by rw [hpl])
            have hql : (s.extract (k + 3 + n) (k + 3 + n + 4)).data.toList = (s.data.toList.drop (k + (n + 3))).take 4 := by
              rw [extract_list, show k + 3 + n + 4 - (k + 3 + n) = 4 by omega, show k + 3 + n = k + (n + 3) by omega]
            have hf := Hf.out
            have hsum := fun W : World => ref_sum_any (s.extract (k + 3) (k + 3 + n)) W hps
            rw [hpl] at hsum
            generalize (s.data.toList.drop (k + 3)).take n = p at *
            have hbyt := fun W : World => ref_bytes_any (Adl.sum p) W (Adl.sum_in _).1 (Adl.sum_in _).2
            generalize hF : Adl.four (Adl.sum p) = F at *
            have Hpe := Lib.hid hpe
            have Hpn := Lib.hid hpn
            have Hsum := Lib.hid hsum
            have Hbyt := Lib.hid hbyt
            clear hpl hpe hpn Hf hsum hbyt hps
            by_cases c4 : (s.data.toList.drop (k + (n + 3))).take 4 = F
            · have hq : (F == (s.extract (k + 3 + n) (k + 3 + n + 4)).toList) = true := by
                rw [ByteArray.toList_eq, hql, c4]; simp
              have Hv := Lib.hid (show nextR s.data.toList k = .tuple #[.string ⟨p.toArray⟩, .int .i64 ((k + n + 8 : Nat) : Int), .bool true] by
                unfold nextR
                rw [hf, if_pos ⟨c1, by omega, by simpa using H2.out, c3, c4⟩]
                show Value.tuple #[.string ⟨p.toArray⟩, .int .i64 ((k + p.length + 8 : Nat) : Int), .bool true] = _
                rw [Hpn.out])
              clear hf hql c4 c3 hF
              go_enter Try.func16, Try.ntmps16
              go_wp2_with fail
              go_quiet (fail)
              clear i5 i6
              go_wp2_with fail
              refine wp_region_ext (by kernel_rfl) (by kernel_rfl) fun K hK => ?_
              repeat (go_big_quiet_step ((first | (go_at_call 27; exact Calls.ext_of (Hsum.out _)) | (go_at_call 26; exact Calls.ext_of (Hbyt.out _)))))
              refine wpQuiet_nil (hK _ fun x => ?_)
              clear hK K
              go_wp2_with fail
              go_ret3
              refine ⟨?_, (below_drewN (Below.refl w.heap.size w) nq).trans (x.le.mono (by simp))⟩
              rw [Hv.out, ← Hpe.out]
              exact ret_sib rfl (by omega) rfl
            · have hq : (F == (s.extract (k + 3 + n) (k + 3 + n + 4)).toList) = false := by
                rw [ByteArray.toList_eq, hql]
                exact beq_eq_false_iff_ne.2 fun e => c4 e.symm
              have Hv := Lib.hid (show nextR s.data.toList k = .tuple #[.string ⟨#[]⟩, .int .i64 0, .bool false] by
                unfold nextR
                rw [hf, if_neg fun h => c4 h.2.2.2.2])
              clear hf hql c4 c3 hF
              go_enter Try.func16, Try.ntmps16
              go_wp2_with fail
              go_quiet (fail)
              clear i5 i6
              go_wp2_with fail
              refine wp_region_ext (by kernel_rfl) (by kernel_rfl) fun K hK => ?_
              repeat (go_big_quiet_step ((first | (go_at_call 27; exact Calls.ext_of (Hsum.out _)) | (go_at_call 26; exact Calls.ext_of (Hbyt.out _)))))
              refine wpQuiet_nil (hK _ fun x => ?_)
              clear hK K
              go_wp2_with fail
              go_ret3
              exact ⟨by rw [Hv.out]; rfl, (below_drewN (Below.refl w.heap.size w) nq).trans (x.le.mono (by simp))⟩
          · have c3' : ((s[k + 3 + n + 4].toNat : Int) != 3) = true := ne_of_at s (k + 3 + n + 4) j1 3 (by rw [show k + 3 + n + 4 = k + (n + 7) by omega]; exact c3)
            have Hn := Lib.hid (show nextR s.data.toList k = .tuple #[.string ⟨#[]⟩, .int .i64 0, .bool false] by
              unfold nextR; rw [Hf.out, if_neg fun h => c3 h.2.2.2.1])
            clear c3 Hf
            go_enter Try.func16, Try.ntmps16
            go_wp2_with fail
            go_quiet (fail)
            clear i5 i6
            go_wp2_with fail
            go_ret3
            exact ⟨by rw [Hn.out]; rfl, below_drewN (Below.refl _ _) _⟩
        · have c2' : ¬ ((k : Int) + 3 + n + 5 ≤ s.size) := by omega
          have Hn := Lib.hid (show nextR s.data.toList k = .tuple #[.string ⟨#[]⟩, .int .i64 0, .bool false] by
            unfold nextR; rw [Hf.out, if_neg fun h => c2 (by have := h.2.1; omega)])
          clear Hf
          go_enter Try.func16, Try.ntmps16
          go_wp2_with fail
          go_quiet (fail)
          clear i5 i6
          go_wp2_with fail
          go_ret3
          exact ⟨by rw [Hn.out]; rfl, below_drewN (Below.refl _ _) _⟩
      · have c1' : ¬ ((n : Int) ≤ 16384) := by omega
        have Hn := Lib.hid (show nextR s.data.toList k = .tuple #[.string ⟨#[]⟩, .int .i64 0, .bool false] by
          unfold nextR; rw [Hf.out, if_neg fun h => c1 h.1])
        clear Hf
        go_enter Try.func16, Try.ntmps16
        go_wp2_with fail
        go_quiet (fail)
        clear i5 i6
        go_wp2_with fail
        go_ret3
        exact ⟨by rw [Hn.out]; rfl, below_drewN (Below.refl _ _) _⟩
    · have hn : nextR s.data.toList k = .tuple #[.string ⟨#[]⟩, .int .i64 0, .bool false] := by
        unfold nextR; rw [Frm.nextAt_bare _ (by rw [List.getElem?_drop]; exact h2)]
      have hne := ne_of_at s k (by omega) 2 h2
      have h1 : ¬ ((s.size : Int) - 8 < k) := by omega
      have Hn := Lib.hid hn
      clear hn hf hdl h2
      have hne2 : ((s[k].toNat : Int) != 2) = true := hne
      clear hne
      go_enter Try.func16, Try.ntmps16
      go_wp2_with fail
      go_ret3
      exact ⟨by rw [Hn.out]; rfl, Below.refl _ _⟩

end Go.Proofs.Ytkgleilcngnpfaa

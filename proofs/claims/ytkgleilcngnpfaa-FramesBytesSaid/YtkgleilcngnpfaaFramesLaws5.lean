/- 'FramesBytes', walked: what bytes a frame is, and that it is none where one of three is another one. -/
import Derived.Test.YtkgleilcngnpfaaFramesRef2
import Derived.Test.YtkgleilcngnpfaaKnown
import Derived.Test.YtkgleilcngnpfaaFramesLaws
import Derived.Laws.BitsAllLaws
namespace Go.Proofs.Ytkgleilcngnpfaa
open Go.RowKit

theorem xor_byte (a b : UInt8) : bits .xor .u8 (a.toNat : Int) (b.toNat : Int) = ((a ^^^ b).toNat : Int) := by
  rw [u8_xor_nat _ _ a.toNat_lt b.toNat_lt, UInt8.toNat_xor]
theorem xor_ne (a b : UInt8) (h : b ≠ 0) : a ^^^ b ≠ a := by
  intro e
  apply h
  have := congrArg (a ^^^ ·) e
  simpa [← UInt8.xor_assoc] using this
theorem BRow.set_other {w : World} {b : Nat} {l : List UInt8} (h : BRow w b l) (p : Addr) (u : Value) (hne : b ≠ p.block) : BRow (w.setCell p u) b l := by
  obtain ⟨cs, e, lo, hi, h, r⟩ := h
  exact ⟨cs, e, lo, hi, by rw [Below.heap_setCell _ _ _ _ hne, h], r⟩
theorem next_none_call (s : ByteArray) (k : Nat) (hm : s.size ≤ 140737488355328) (hk : k ≤ s.size) (h : Frm.nextAt (s.data.toList.drop k) = none) (w : World) :
    Calls Try.prog 15 #[.string s, .int .i64 k] w fun e w' => e = .returned (.tuple #[.string ⟨#[]⟩, .int .i64 0, .bool false]) ∧ Below w.heap.size w w' := by
  have := next_in s k w hm hk
  rw [nextR, h] at this
  exact this
theorem bytes_first (p : List UInt8) (c : UInt8) (hc : c ≠ 2) : Frm.nextAt ((Frm.frame p).set 0 c) = none := by
  refine Frm.nextAt_bare _ ?_
  rw [Frm.frame_eq]
  simpa using hc
theorem frame_end (p : List UInt8) : (Frm.frame p)[p.length + 7]? = some 3 := by
  unfold Frm.frame
  rw [List.getElem?_append_right (by simp [Frm.four_length])]
  simp [Frm.four_length]
theorem len16_own (p : List UInt8) (h : p.length ≤ 16384) : Frm.len16 (Frm.frame p) = p.length := by
  have := Frm.len16_frame p [] h
  rwa [List.append_nil] at this
theorem len16_set (d : List UInt8) (i : Nat) (c : UInt8) (h : 3 ≤ i) : Frm.len16 (d.set i c) = Frm.len16 d := by
  unfold Frm.len16
  rw [List.getElem?_set_ne (by omega), List.getElem?_set_ne (by omega)]
theorem bytes_last (p : List UInt8) (h : p.length ≤ 16384) (c : UInt8) (hc : c ≠ 3) : Frm.nextAt ((Frm.frame p).set (p.length + 7) c) = none := by
  rw [Frm.nextAt_fields, len16_set _ _ _ (by omega), len16_own p h, if_neg]
  rintro ⟨_, _, _, h4, _⟩
  rw [Nat.add_comm 7, List.getElem?_set_self (by rw [Frm.frame_length]; omega)] at h4
  exact hc (Option.some.inj h4)
theorem bytes_longer (p : List UInt8) (h : p.length ≤ 3000) (a b : UInt8) (hab : p.length < a.toNat * 256 + b.toNat) : Frm.nextAt (((Frm.frame p).set 1 a).set 2 b) = none := by
  have e : Frm.len16 (((Frm.frame p).set 1 a).set 2 b) = a.toNat * 256 + b.toNat := by
    unfold Frm.len16
    rw [List.getElem?_set_ne (by omega), List.getElem?_set_self (by rw [Frm.frame_length]; omega), List.getElem?_set_self (by rw [List.length_set, Frm.frame_length]; omega)]
    rfl
  rw [Frm.nextAt_fields, e, if_neg]
  rintro ⟨_, h2, _⟩
  rw [List.length_set, List.length_set, Frm.frame_length] at h2
  omega
theorem frame_parts (p : ByteArray) (hp : p.size ≤ 3000) : ∃ F : ByteArray, F.data.toList = Frm.frame p.data.toList ∧ F.size = p.size + 8 ∧
    (∀ W : World, Calls Try.prog 13 #[.string p] W fun e w' => e = .returned (.tuple #[.string F, .int .i64 0]) ∧ Below W.heap.size W w') ∧
    (∀ W : World, Calls Try.prog 15 #[.string F, .int .i64 0] W fun e w' => e = .returned (.tuple #[.string p, .int .i64 ((p.size : Int) + 8), .bool true]) ∧ Below W.heap.size W w') ∧
    (∀ h : 0 < F.size, (F[0]'h).toNat = 2) ∧ (∀ (h1 : 1 < F.size) (h2 : 2 < F.size), ((F[1]'h1).toNat : Int) * (256 : Int) + ((F[2]'h2).toNat : Int) = (p.size : Int)) ∧ F.extract 3 (p.size + 3) = p ∧ ∀ h : p.size + 7 < F.size, (F[p.size + 7]'h).toNat = 3 := by
  have hl : p.data.toList.length = p.size := by simp
  have hFl : (⟨(Frm.frame p.data.toList).toArray⟩ : ByteArray).size = p.size + 8 := by show (Frm.frame p.data.toList).toArray.size = _; rw [List.size_toArray, Frm.frame_length, hl]
  refine ⟨⟨(Frm.frame p.data.toList).toArray⟩, rfl, hFl, fun W => frame_short p W (by omega), fun W => ?_, fun h => rfl, fun h1 h2 => ?_, ?_, fun h => ?_⟩
  · have h := next_in (⟨(Frm.frame p.data.toList).toArray⟩ : ByteArray) 0 W (by omega) (by omega)
    have e : Frm.nextAt ((Frm.frame p.data.toList).drop 0) = some p.data.toList := (Frm.nextAt_some _ _).2 ⟨by omega, List.prefix_refl _⟩
    rw [nextR] at h
    have e2 : (⟨(Frm.frame p.data.toList).toArray⟩ : ByteArray).data.toList = Frm.frame p.data.toList := rfl
    rw [e2, e] at h
    simp only [hl] at h
    rw [show ((0 + p.size + 8 : Nat) : Int) = (p.size : Int) + 8 from by omega] at h
    exact h
  · rw [show ∀ a b : Int, a * 256 + b = a * ((256 : Nat) : Int) + b from fun _ _ => rfl, ← len16_str _ h1 h2]
    show (Frm.len16 (Frm.frame p.data.toList) : Int) = _
    rw [len16_own _ (by omega), hl]
  · refine bytes_ext ?_
    rw [extract_list]
    show ((Frm.frame p.data.toList).drop 3).take (p.size + 3 - 3) = _
    have := Frm.payload_frame p.data.toList []
    rw [List.append_nil, hl] at this
    rw [show p.size + 3 - 3 = p.size from by omega, this]
  · have := frame_end p.data.toList
    rw [hl] at this
    have e : ((Frm.frame p.data.toList)[p.size + 7]'(by rw [Frm.frame_length]; omega)) = 3 := by
      rw [List.getElem?_eq_getElem (by rw [Frm.frame_length]; omega)] at this
      exact Option.some.inj this
    show ((Frm.frame p.data.toList)[p.size + 7]).toNat = 3
    rw [e]; rfl

set_option maxRecDepth 100000 in
set_option maxHeartbeats 1000000 in
theorem walkFramesBytes (p : ByteArray) (by_ : Int) (w : World) (_hp : p.size ≤ maxLen) (hk : 0 ≤ by_ ∧ by_ ≤ 255) :
    Calls Try.prog 5 #[.string p, .int .u8 by_] w fun e w' => e = .returned (.bool true) ∧ Below w.heap.size w w' := by
  obtain ⟨bb, rfl⟩ : ∃ bb : UInt8, by_ = (bb.toNat : Int) := ⟨UInt8.ofNat by_.toNat, by rw [UInt8.toNat_ofNat_of_lt' (by show _ < 256; omega)]; omega⟩
  by_cases hc : (p.size : Int) ≤ 3000 ∧ (bb.toNat : Int) ≠ 0
  · obtain ⟨c1, c2⟩ := hc
    have hbn : bb ≠ 0 := fun e => c2 (by rw [e]; rfl)
    have hd : (decide ((3000 : Int) < p.size) || ((bb.toNat : Int) == 0)) = false := by
      rw [Bool.or_eq_false_iff, decide_eq_false_iff_not, beq_eq_false_iff_ne]; exact ⟨by omega, c2⟩
    obtain ⟨F, hFl, hFz, hF, hN, h0, h12, hx, h7⟩ := frame_parts p (by omega)
    have HF := Lib.hid hF
    have HN := Lib.hid hN
    have Hbn := Lib.hid hbn
    obtain ⟨L, hL⟩ : ∃ L, F.data.toList = L := ⟨_, rfl⟩
    have hLl : L = Frm.frame p.data.toList := by rw [← hL, hFl]
    have hLn : L.length = p.size + 8 := by rw [← hL, len_list]; exact hFz
    have g0 : ∀ h : 0 < L.length, L[0]'h = 2 := by rw [hLl]; intro h; rfl
    have g7 : ∀ h : p.size + 7 < L.length, L[p.size + 7]'h = 3 := by
      have := frame_end p.data.toList
      rw [len_list, ← hLl] at this
      intro h
      rw [List.getElem?_eq_getElem h] at this
      exact Option.some.inj this
    have HL := Lib.hid hL
    have HLl := Lib.hid hLl
    have HLn := Lib.hid hLn
    have G0 := Lib.hid g0
    have G7 := Lib.hid g7
    clear hL hLl hLn g0 g7
    have z0 : 0 < F.size := by omega
    have z1 : 1 < F.size := by omega
    have z2 : 2 < F.size := by omega
    have z7 : p.size + 7 < F.size := by omega
    have t0 := h0 z0
    have t7 := h7 z7
    have t12 := h12 z1 z2
    have i7 : ((p.size : Int) + 7).toNat = p.size + 7 := by omega
    have i3 : ((3 : Int) + p.size).toNat = p.size + 3 := by omega
    have u1 := F[1].toNat_lt
    have u2 := F[2].toNat_lt
    have wr1 : IntKind.i64.wrap ((p.size : Int) + 8) = (p.size : Int) + 8 := by rw [IntKind.wrap_i64]; omega
    have wr2 : IntKind.i64.wrap ((p.size : Int) + 7) = (p.size : Int) + 7 := by rw [IntKind.wrap_i64]; omega
    have wr3 : IntKind.i64.wrap ((3 : Int) + p.size) = (3 : Int) + p.size := by rw [IntKind.wrap_i64]; omega
    have wr4 : IntKind.i64.wrap ((F[1].toNat : Int) * 256) = (F[1].toNat : Int) * 256 := by rw [IntKind.wrap_i64]; omega
    have wr5 : IntKind.i64.wrap (p.size : Int) = (p.size : Int) := by rw [IntKind.wrap_i64]; omega
    have nb : ((F.size : Int) != (p.size : Int) + 8) = false := by rw [bne_eq_false_iff_eq]; omega
    have I0 : (0 : Int) < F.size := by omega
    have I1 : (1 : Int) < F.size := by omega
    have I2 : (2 : Int) < F.size := by omega
    have I7 : (p.size : Int) + 7 < F.size := by omega
    have I70 : 0 ≤ (p.size : Int) + 7 := by omega
    have I3 : (0 : Int) ≤ 3 ∧ (3 : Int) ≤ 3 + p.size ∧ (3 : Int) + p.size ≤ F.size := by omega
    have HFz := Lib.hid hFz
    clear hF hN h0 h12 h7 hbn hFl hFz
    go_enter Try.func5, Try.ntmps5
    go_wp2_with fail
    refine (HF.out _).mono ?_
    rintro e w1 ⟨rfl, hb1⟩
    have Hb1 := Lib.hid hb1
    clear hb1
    go_wp2_with fail
    go_quiet (fail)
    have Hb1d := Lib.hid (below_drewN Hb1.out nq)
    clear nb t0 t7 t12 u1 u2 wr1 wr2 wr3 wr4 wr5 hx
    go_wp2_with fail
    refine (HN.out _).mono ?_
    rintro e w2 ⟨rfl, hb2⟩
    have hb2' := Hb1d.out.trans (hb2.mono Hb1d.out.size)
    have hz2 := hb2'.size
    have Hb2 := Lib.hid hb2'
    clear hb2 hb2' Hb1 Hb1d
    obtain ⟨x2, hx2, xx2⟩ : ∃ x : UInt8, x ≠ 2 ∧ bits .xor .u8 2 (bb.toNat : Int) = (x.toNat : Int) := ⟨2 ^^^ bb, xor_ne _ _ Hbn.out, xor_byte 2 bb⟩
    obtain ⟨x3, hx3, xx3⟩ : ∃ x : UInt8, x ≠ 3 ∧ bits .xor .u8 3 (bb.toNat : Int) = (x.toNat : Int) := ⟨3 ^^^ bb, xor_ne _ _ Hbn.out, xor_byte 3 bb⟩
    obtain ⟨y1, hy1⟩ : ∃ y : UInt8, ((p.size : Int) + (bb.toNat : Int)) / 256 = (y.toNat : Int) := ⟨UInt8.ofNat ((p.size + bb.toNat) / 256), by rw [UInt8.toNat_ofNat_of_lt' (by show _ < 256; omega)]; omega⟩
    obtain ⟨y2, hy2⟩ : ∃ y : UInt8, ((p.size : Int) + (bb.toNat : Int)) % 256 = (y.toNat : Int) := ⟨UInt8.ofNat ((p.size + bb.toNat) % 256), by rw [UInt8.toNat_ofNat_of_lt' (by show _ < 256; omega)]; omega⟩
    have Hx2 := Lib.hid hx2
    have Hx3 := Lib.hid hx3
    have hyy : p.size < y1.toNat * 256 + y2.toNat := by omega
    have Hyy := Lib.hid hyy
    clear hx2 hx3 hyy
    have hy1b := y1.toNat_lt
    have hy2b := y2.toNat_lt
    go_wp2_with (first
      | (refine wpList_bytes_of rfl (.tmp 85) rfl F rfl ?_; intro b1 cap1 w3 hwb1 hrow1 hbel3; rw [HL.out] at hrow1; have Hrow1 := Lib.hid hrow1; have Hb3 := Lib.hid (Hb2.out.trans (hbel3.mono hz2)); have hz3 := hbel3.size; have hlt1 := hrow1.lt; clear hrow1 hbel3)
      | (refine wpList_bytes_of rfl (.tmp 87) rfl F rfl ?_; intro b2 cap2 w4 hwb2 hrow2 hbel4; rw [HL.out] at hrow2; have Hrow2 := Lib.hid hrow2; have Hb4 := Lib.hid (Hb3.out.trans (hbel4.mono (Nat.le_trans hz2 hz3))); have Hrow1' := Lib.hid (Hrow1.out.below hbel4); have q0 := Hrow1'.out.cell 0 (by rw [HLn.out]; omega); have q1 := Hrow1'.out.free 0 (by rw [HLn.out]; omega); rw [G0.out] at q0; have q0' : w4.cell? ⟨b1, 0, none⟩ = some (.int .u8 2) := q0; clear q0
         have hne12 : b2 ≠ b1 := by omega
         have h2 := hrow2.set_other ⟨b1, 0, none⟩ (.int .u8 (x2.toNat : Int)) hne12
         have q2 := h2.cell (p.size + 7) (by rw [HLn.out]; omega)
         have q3 := h2.free (p.size + 7) (by rw [HLn.out]; omega)
         rw [G7.out] at q2
         have q2' : (w4.setCell ⟨b1, 0, none⟩ (.int .u8 (x2.toNat : Int))).cell? ⟨b2, p.size + 7, none⟩ = some (.int .u8 3) := q2
         clear hrow2 hbel4 q2 h2)
      | (refine wpList_bytes_of rfl (.tmp 107) rfl F rfl ?_; intro b3 cap3 w6 hwb3 hrow3 hbel6; rw [HL.out] at hrow3
         simp only [World.size_setCell] at hwb3
         have r1 := hrow3.free 1 (by rw [HLn.out]; omega)
         have r0 := hrow3.cell 1 (by rw [HLn.out]; omega)
         have h3 := hrow3.set 1 y1
         have r2 := h3.cell 2 (by rw [List.length_set, HLn.out]; omega)
         have r3 := h3.free 2 (by rw [List.length_set, HLn.out]; omega)
         generalize L[1]'(by rw [HLn.out]; omega) = o1 at r0
         generalize (L.set 1 y1)[2]'(by rw [List.length_set, HLn.out]; omega) = o2 at r2
         have hlt2 := Hrow2.out.lt
         have n13 : b1 ≠ b3 := by omega
         have n23 : b2 ≠ b3 := by omega
         have hb5 := (Hb4.out.setCell (p := ⟨b1, 0, none⟩) (by show w.heap.size ≤ b1; omega) (.int .u8 (x2.toNat : Int))).setCell (p := ⟨b2, p.size + 7, none⟩) (by show w.heap.size ≤ b2; omega) (.int .u8 (x3.toNat : Int))
         have hb6 := hb5.trans (hbel6.mono hb5.size)
         have Hb7 := Lib.hid ((hb6.setCell (p := ⟨b3, 1, none⟩) (by show w.heap.size ≤ b3; omega) (.int .u8 (y1.toNat : Int))).setCell (p := ⟨b3, 2, none⟩) (by show w.heap.size ≤ b3; omega) (.int .u8 (y2.toNat : Int)))
         have E1 := Lib.hid ((((((Hrow1'.out.set 0 x2).set_other ⟨b2, p.size + 7, none⟩ (.int .u8 (x3.toNat : Int)) (Ne.symm hne12)).below hbel6).set_other ⟨b3, 1, none⟩ (.int .u8 (y1.toNat : Int)) n13).set_other ⟨b3, 2, none⟩ (.int .u8 (y2.toNat : Int)) n13))
         have E2 := Lib.hid ((((((Hrow2.out.set_other ⟨b1, 0, none⟩ (.int .u8 (x2.toNat : Int)) hne12).set (p.size + 7) x3).below hbel6).set_other ⟨b3, 1, none⟩ (.int .u8 (y1.toNat : Int)) n23).set_other ⟨b3, 2, none⟩ (.int .u8 (y2.toNat : Int)) n23))
         have E3 := Lib.hid (h3.set 2 y2)
         clear hrow3 h3 hbel6 hb5 hb6)
      | (refine wpList_text_of rfl (.tmp 126) rfl b1 F.size cap1 rfl (L.set 0 x2) (by rw [List.length_set, HLn.out, HFz.out]) E1.out ?_))
    have hl : p.data.toList.length = p.size := by simp
    have z1 : (ByteArray.mk (L.set 0 x2).toArray).size = p.size + 8 := by show (L.set 0 x2).toArray.size = _; rw [List.size_toArray, List.length_set, HLn.out]
    have z2 : (ByteArray.mk (L.set (p.size + 7) x3).toArray).size = p.size + 8 := by show (L.set (p.size + 7) x3).toArray.size = _; rw [List.size_toArray, List.length_set, HLn.out]
    have z3 : (ByteArray.mk ((L.set 1 y1).set 2 y2).toArray).size = p.size + 8 := by show ((L.set 1 y1).set 2 y2).toArray.size = _; rw [List.size_toArray, List.length_set, List.length_set, HLn.out]
    have m1 : Frm.nextAt ((ByteArray.mk (L.set 0 x2).toArray).data.toList.drop 0) = none := by
      show Frm.nextAt (L.set 0 x2) = none
      rw [HLl.out]; exact bytes_first _ _ Hx2.out
    have m2 : Frm.nextAt ((ByteArray.mk (L.set (p.size + 7) x3).toArray).data.toList.drop 0) = none := by
      show Frm.nextAt (L.set (p.size + 7) x3) = none
      rw [HLl.out, ← hl]; exact bytes_last _ (by omega) _ Hx3.out
    have m3 : Frm.nextAt ((ByteArray.mk ((L.set 1 y1).set 2 y2).toArray).data.toList.drop 0) = none := by
      show Frm.nextAt ((L.set 1 y1).set 2 y2) = none
      rw [HLl.out]; exact bytes_longer _ (by omega) _ _ (by rw [hl]; exact Hyy.out)
    refine (next_none_call (ByteArray.mk (L.set 0 x2).toArray) 0 (by omega) (by omega) m1 _).mono ?_
    rintro e w8 ⟨rfl, hb8⟩
    have Hb8 := Lib.hid (Hb7.out.trans (hb8.mono Hb7.out.size))
    have F2 := Lib.hid (E2.out.below hb8)
    have F3 := Lib.hid (E3.out.below hb8)
    clear hb8 r0 r1 r2 r3 q0' q1 q2' q3
    go_wp2_with (refine wpList_text_of rfl (.tmp 133) rfl b2 F.size cap2 rfl (L.set (p.size + 7) x3) (by rw [List.length_set, HLn.out, HFz.out]) F2.out ?_)
    refine (next_none_call (ByteArray.mk (L.set (p.size + 7) x3).toArray) 0 (by omega) (by omega) m2 _).mono ?_
    rintro e w9 ⟨rfl, hb9⟩
    have Hb9 := Lib.hid (Hb8.out.trans (hb9.mono Hb8.out.size))
    have D3 := Lib.hid (F3.out.below hb9)
    clear hb9
    go_wp2_with (refine wpList_text_of rfl (.tmp 140) rfl b3 F.size cap3 rfl ((L.set 1 y1).set 2 y2) (by rw [List.length_set, List.length_set, HLn.out, HFz.out]) D3.out ?_)
    refine (next_none_call (ByteArray.mk ((L.set 1 y1).set 2 y2).toArray) 0 (by omega) (by omega) m3 _).mono ?_
    rintro e w10 ⟨rfl, hb10⟩
    have Hb10 := Lib.hid (Hb9.out.trans (hb10.mono Hb9.out.size))
    clear hb10
    go_wp2_with fail
    refine (known_any _).mono ?_
    rintro e w11 ⟨rfl, hb11⟩
    have Hb11 := Lib.hid (Hb10.out.trans (hb11.mono Hb10.out.size))
    clear hb11
    go_wp2_with fail
    go_ret
    exact ⟨rfl, Hb11.out⟩
  · have hd : (decide ((3000 : Int) < p.size) || ((bb.toNat : Int) == 0)) = true := by
      rw [Bool.or_eq_true, decide_eq_true_eq, beq_iff_eq]; omega
    go_enter Try.func5, Try.ntmps5
    go_wp2_with fail
    all_goals
      refine (known_any _).mono ?_
      rintro e w4 ⟨rfl, hb4⟩
      have Hb4 := Lib.hid hb4
      clear hb4
      go_wp2_with fail
      go_ret
      exact ⟨rfl, Hb4.out⟩
end Go.Proofs.Ytkgleilcngnpfaa

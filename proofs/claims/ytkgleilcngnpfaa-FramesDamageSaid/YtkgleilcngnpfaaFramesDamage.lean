/- 'FramesDamage', walked. -/
import Derived.Test.YtkgleilcngnpfaaRowDamage
import Derived.Laws.BitsAllLaws
namespace Go.Proofs.Ytkgleilcngnpfaa
open Go.RowKit

theorem OwnI.each {w : World} {B : Nat} {v : Value} {l : List Int} (h : OwnI w B v l) : ∃ x c, v = .slice x l.length c ∧ ∀ (j : Nat) (hj : j < l.length), ∃ b off, x = some ⟨b, off, none⟩ ∧ b < w.heap.size ∧ w.cell? ⟨b, off + j, none⟩ = some (.int .i64 l[j]) := by
  rcases h.rd with ⟨c, rfl, rfl⟩ | ⟨b, off, c, rfl, hb, hc⟩
  · exact ⟨_, _, rfl, fun j hj => absurd hj (by simp)⟩
  · exact ⟨_, _, rfl, fun j hj => ⟨b, off, rfl, hb, hc j hj⟩⟩
theorem xor_byte (a b : UInt8) : bits .xor .u8 (a.toNat : Int) (b.toNat : Int) = ((a ^^^ b).toNat : Int) := by
  rw [u8_xor_nat _ _ a.toNat_lt b.toNat_lt, UInt8.toNat_xor]
theorem xor_ne (a b : UInt8) (h : b ≠ 0) : a ^^^ b ≠ a := by
  intro e
  apply h
  have := congrArg (a ^^^ ·) e
  simpa [← UInt8.xor_assoc] using this

set_option maxRecDepth 100000 in
set_option maxHeartbeats 1000000 in
theorem framesDamage_any (v : Value) (which by_ : Int) (l : List ByteArray) (w : World) (h : RdE w v l) (hm : l.length ≤ maxLen) (hk : 0 ≤ which ∧ which ≤ 65535) (hb : 0 ≤ by_ ∧ by_ ≤ 255) :
    Calls Try.prog 8 #[v, .int .u16 which, .int .u8 by_] w fun e w' => e = .returned (.bool true) ∧ Below w.heap.size w w' := by
  obtain ⟨bb, rfl⟩ : ∃ bb : UInt8, by_ = (bb.toNat : Int) := ⟨UInt8.ofNat by_.toNat, by rw [UInt8.toNat_ofNat_of_lt' (by show _ < 256; omega)]; omega⟩
  have hml : l.length ≤ 9223372036854775807 := by unfold maxLen at hm; omega
  have hrow := row_any v l w h hml
  obtain ⟨vx, vc, rfl, hcell⟩ := id h
  have Hcell := Lib.hid hcell
  clear hcell
  by_cases hok : rowOk l
  · obtain ⟨hn20, hsm⟩ := id hok
    have hTl := rowT_le l l.length (Nat.le_refl _) (fun j hj _ => hsm j hj)
    rw [List.take_length] at hTl
    have hTs := strOf_size (rowT l)
    obtain ⟨T, hT⟩ : ∃ T, strOf (rowT l) = T := ⟨_, rfl⟩
    have hTd : T.data.toList = rowT l := by rw [← hT]; rfl
    rw [hT] at hTs hrow
    have HTd := Lib.hid hTd
    have HTs := Lib.hid hTs
    have hTb : T.size ≤ 308 * 20 := by omega
    have hrow2 := hrow.mono (fun e w' (x : _ ∧ _ ∧ _) => And.intro (x.1 hok) x.2.2)
    have Hrow := Lib.hid hrow2
    have Hok := Lib.hid hok
    clear hrow hrow2 h hok hsm hT hTd hTs hTl
    by_cases c0 : (l.length : Int) = 0
    · have d0 : ((l.length : Int) == 0) = true := by rw [beq_iff_eq]; exact c0
      clear c0
      go_enter Try.func8, Try.ntmps8
      go_wp2_with fail
      refine Hrow.out.mono ?_
      rintro e w1 ⟨⟨vf, rfl, hown⟩, hb1⟩
      obtain ⟨fx, fc, rfl, hcs⟩ := hown.each
      rw [rowF_length]
      have Hb1 := Lib.hid hb1
      clear hb1 hown hcs
      go_wp2_with fail
      refine (known_any _).mono ?_
      rintro e w2 ⟨rfl, hb2⟩
      have Hb2 := Lib.hid (Hb1.out.trans (hb2.mono Hb1.out.size))
      clear hb2
      go_wp2_with fail
      go_ret
      exact ⟨rfl, Hb2.out⟩
    · have d0 : ((l.length : Int) == 0) = false := by rw [beq_eq_false_iff_ne]; exact c0
      by_cases cb : (bb.toNat : Int) = 0
      · have d1 : ((bb.toNat : Int) == 0) = true := by rw [beq_iff_eq]; exact cb
        clear cb
        go_enter Try.func8, Try.ntmps8
        go_wp2_with fail
        refine Hrow.out.mono ?_
        rintro e w1 ⟨⟨vf, rfl, hown⟩, hb1⟩
        obtain ⟨fx, fc, rfl, hcs⟩ := hown.each
        rw [rowF_length]
        have Hb1 := Lib.hid hb1
        clear hb1 hown hcs
        go_wp2_with fail
        refine (known_any _).mono ?_
        rintro e w2 ⟨rfl, hb2⟩
        have Hb2 := Lib.hid (Hb1.out.trans (hb2.mono Hb1.out.size))
        clear hb2
        go_wp2_with fail
        go_ret
        exact ⟨rfl, Hb2.out⟩
      · have d1 : ((bb.toNat : Int) == 0) = false := by rw [beq_eq_false_iff_ne]; exact cb
        have Hbn := Lib.hid (show bb ≠ 0 from fun e => cb (by rw [e]; rfl))
        clear cb
        obtain ⟨K, hK, hKl⟩ : ∃ K : Nat, which % (l.length : Int) = (K : Int) ∧ K < l.length := by
          have h1 := Int.emod_nonneg which c0
          have h2 := Int.emod_lt_of_pos which (show 0 < (l.length : Int) by omega)
          exact ⟨(which % (l.length : Int)).toNat, by omega, by omega⟩
        obtain ⟨D, hD, hDb⟩ : ∃ D : Nat, which / (l.length : Int) = (D : Int) ∧ D ≤ 65535 := by
          have h1 := Int.ediv_nonneg hk.1 (show 0 ≤ (l.length : Int) by omega)
          have h2 := Int.ediv_le_self (l.length : Int) hk.1
          exact ⟨(which / (l.length : Int)).toNat, by omega, by omega⟩
        obtain ⟨b, off, rfl, hbl, hcK⟩ := Hcell.out K hKl
        have hPz : l[K].size ≤ 300 := Hok.out.2 K hKl
        obtain ⟨R, hR, hRb⟩ : ∃ R : Nat, (D : Int) % ((l[K].size : Int) + 4) = (R : Int) ∧ R < l[K].size + 4 := by
          have h1 := Int.emod_nonneg (D : Int) (show (l[K].size : Int) + 4 ≠ 0 by omega)
          have h2 := Int.emod_lt_of_pos (D : Int) (show 0 < (l[K].size : Int) + 4 by omega)
          exact ⟨((D : Int) % ((l[K].size : Int) + 4)).toNat, by omega, by omega⟩
        have hIb := damage_at l K R hKl hRb
        have hrb : rowB l K ≤ 308 * 20 := by
          have h1 := rowB_mono l K l.length (by omega) (Nat.le_refl _)
          rw [rowB_end, ← HTs.out] at h1
          omega
        have HcK := Lib.hid hcK
        have HRb := Lib.hid hRb
        obtain ⟨z, hz⟩ : ∃ z, l[K].size = z := ⟨_, rfl⟩
        obtain ⟨rb, hrbe⟩ : ∃ rb, rowB l K = rb := ⟨_, rfl⟩
        have Hz := Lib.hid hz
        have Hrbe := Lib.hid hrbe
        have hK0 : ((K : Nat) : Int) < l.length := by omega
        have wr1 : IntKind.i64.wrap ((rb : Int) + 3) = (rb : Int) + 3 := by rw [IntKind.wrap_i64]; omega
        have wr2 : IntKind.i64.wrap (D : Int) = (D : Int) := by rw [IntKind.wrap_i64]; omega
        have wr3 : IntKind.i64.wrap ((l[K].size : Int) + 4) = (l[K].size : Int) + 4 := by rw [IntKind.wrap_i64]; omega
        have wr4 : IntKind.i64.wrap (R : Int) = (R : Int) := by rw [IntKind.wrap_i64]; omega
        have wr5 : IntKind.i64.wrap ((rb : Int) + 3 + R) = (rb : Int) + 3 + R := by rw [IntKind.wrap_i64]; omega
        have nz : ((l[K].size : Int) + 4 = 0) = False := by simp; omega
        clear hcK hRb hz hrbe
        go_enter Try.func8, Try.ntmps8
        go_wp2_with fail
        refine Hrow.out.mono ?_
        rintro e w1 ⟨⟨vf, rfl, hown⟩, hb1⟩
        obtain ⟨fx, fc, rfl, hcs⟩ := hown.each
        rw [rowF_length]
        simp only [rowF_length] at hcs
        obtain ⟨fb, foff, rfl, hfl, hcA⟩ := hcs K hKl
        rw [rowF_get, Hrbe.out] at hcA
        have hcB := (hb1.cell (p := ⟨b, off + K, none⟩) hbl).trans HcK.out
        have Hcs := Lib.hid hcs
        have Hb1 := Lib.hid hb1
        clear hb1 hown hcs
        go_wp2_with fail
        simp only [hK]
        go_quiet (fail)
        have Hb1d := Lib.hid (below_drewN Hb1.out nq)
        have Hcs2 : ∀ (j : Nat) (hj : j < l.length), (w1.drewN nq).cell? ⟨fb, foff + j, none⟩ = some (.int .i64 (rowB l j)) := fun j hj => by
          obtain ⟨b', off', e, _, hc⟩ := Hcs.out j hj
          rw [rowF_get] at hc
          injection e with e
          injection e with e1 e2
          subst e1 e2
          exact hc
        have Hcells := Lib.hid Hcs2
        have Hpays : ∀ (j : Nat) (hj : j < l.length), (w1.drewN nq).cell? ⟨b, off + j, none⟩ = some (.string l[j]) := fun j hj => by
          obtain ⟨b', off', e, hb', hc⟩ := Hcell.out j hj
          injection e with e
          injection e with e1 e2
          subst e1 e2
          exact (Hb1d.out.cell (p := ⟨b, off + j, none⟩) hb').trans hc
        have Hpay := Lib.hid Hpays
        clear Hcs2 Hpays Hcs hcA hcB wr1 wr2 wr3 wr4 wr5 nz hR HcK Hcell Hb1
        obtain ⟨I, hI⟩ : ∃ I : Nat, (rb : Int) + 3 + R = (I : Int) := ⟨rb + 3 + R, by omega⟩
        simp only [hI]
        have HI := Lib.hid (show I = rowB l K + 3 + R by rw [Hrbe.out]; omega)
        clear hI
        obtain ⟨L, hL⟩ : ∃ L, L = rowT l := ⟨_, rfl⟩
        have hIL : I < L.length := by rw [hL, HI.out]; exact damage_at l K R hKl HRb.out
        obtain ⟨old, hold⟩ : ∃ old, L[I] = old := ⟨_, rfl⟩
        obtain ⟨c, hc, xx⟩ : ∃ c : UInt8, c ≠ old ∧ bits .xor .u8 (old.toNat : Int) (bb.toNat : Int) = (c.toNat : Int) := ⟨old ^^^ bb, xor_ne _ _ Hbn.out, xor_byte _ _⟩
        have hLz : T.size = L.length := by rw [HTs.out, hL]
        have hIT : (I : Int) < T.size := by omega
        have hnew : (L.set I c).length = T.size := by rw [List.length_set, hLz]
        have hM : ∀ (j : Nat) (hj : j < l.length), ∃ (A : ByteArray) (B : Int) (C : Bool), (j = K → C = false) ∧ (j ≠ K → C = true ∧ A = l[j]) ∧
            ∀ W : World, Calls Try.prog 15 #[.string ⟨(L.set I c).toArray⟩, .int .i64 (rowB l j)] W (fun e w' => e = .returned (.tuple #[.string A, .int .i64 B, .bool C]) ∧ Below W.heap.size W w') := fun j hj => by
          have hz : (ByteArray.mk (L.set I c).toArray).size = T.size := by show (L.set I c).toArray.size = _; rw [List.size_toArray, hnew]
          have hjb : rowB l j ≤ T.size := by rw [HTs.out, ← rowB_end]; exact rowB_mono l j _ (by omega) (Nat.le_refl _)
          have hN := fun W : World => next_in (ByteArray.mk (L.set I c).toArray) (rowB l j) W (by omega) (by omega)
          by_cases hjK : j = K
          · have e := damage_this l Hok.out K R hKl HRb.out c (by
              have e2 : (rowT l)[rowB l K + 3 + R]? = L[I]? := by rw [hL, HI.out]
              rw [List.getElem?_eq_getElem hIL, List.getElem?_eq_getElem (damage_at l K R hKl HRb.out)] at e2
              rw [Option.some.inj e2, hold]; exact hc)
            rw [← HI.out, ← hL, ← hjK] at e
            simp only [nextR, e] at hN
            exact ⟨_, _, _, fun _ => rfl, fun h => absurd hjK h, hN⟩
          · have e := damage_other l Hok.out K R j hKl HRb.out c hj hjK
            rw [← HI.out, ← hL] at e
            simp only [nextR, e] at hN
            exact ⟨_, _, _, fun h => absurd h hjK, fun _ => ⟨rfl, rfl⟩, hN⟩
        have HM := Lib.hid hM
        have HL := Lib.hid hL
        have HTL := Lib.hid (show T.data.toList = L by rw [HTd.out, hL])
        have Hnew := Lib.hid hnew
        have HIL := Lib.hid hIL
        have Hold := Lib.hid hold
        clear hM hL hnew hc hLz hold
        go_wp2_with (refine wpList_bytes_of rfl (.tmp 58) rfl T rfl ?_; intro b2 cap w2 hwb hrow hbel; rw [HTL.out] at hrow; have q0 := hrow.cell I HIL.out; have q1 := hrow.free I HIL.out; rw [Hold.out] at q0; have Hset := Lib.hid (hrow.set I c); have Hbe := Lib.hid (hbel.setCell (p := ⟨b2, I, none⟩) hwb (.int .u8 (c.toNat : Int))); clear hrow hbel)
        go_loopw [6, 13, 14, 15, 16] (fun _ v13 _ _ _ wr => ∃ j : Nat, v13 = .int .i64 j ∧ j ≤ l.length ∧ BRow wr b2 (L.set I c) ∧ Below (w1.drewN nq).heap.size (w1.drewN nq) wr) (fun _ v13 _ _ _ _ => l.length - (intOf v13).toNat)
        case atStart => exact ⟨0, rfl, Nat.zero_le _, Hset.out, Hbe.out⟩
        case round =>
          clear q0 q1 xx Hset Hbe
          obtain ⟨j, rfl, hj, hbr, hbe⟩ := hrel
          have Hbe := Lib.hid hbe
          have Hbr := Lib.hid hbr
          have hz0 := hbe.size
          clear hbe hbr
          by_cases hlt : j < l.length
          · obtain ⟨A, B, C, hC1, hC2, hN⟩ := HM.out j hlt
            have q2 := fun x : Ext wr => (Hbr.out.ext x).textn cap T.size Hnew.out
            have cj := Hcells.out j hlt
            have fbl : fb < (w1.drewN nq).heap.size := hfl
            have q3 : ∀ x : Ext wr, x.wd.cell? ⟨fb, foff + j, none⟩ = some (.int .i64 (rowB l j)) := fun x => ((Hbe.out.trans (x.le.mono hz0)).cell (p := ⟨fb, foff + j, none⟩) fbl).trans cj
            have HN := Lib.hid hN
            have i1 : (j : Int) < l.length := by omega
            generalize rowB l j = rj at *
            clear hN cj
            by_cases hjK : j = K
            · obtain rfl := hC1 hjK
              subst hjK
              clear hC1 hC2
              go_wp2_with fail
              refine wp_region_ext (by kernel_rfl) (by kernel_rfl) fun K hK => ?_
              repeat (go_big_quiet_step ((go_at_call 15; exact Calls.ext_of (HN.out _))))
              refine wpQuiet_nil (hK _ fun x => ?_)
              clear hK K
              have Hbr3 := Lib.hid (Hbr.out.ext x)
              have Hbe3 := Lib.hid (Hbe.out.trans (x.le.mono hz0))
              clear q2 q3
              go_wp2_with fail
              go_roundw
              case rel => exact ⟨j + 1, by go_num, by omega, Hbr3.out, Hbe3.out⟩
              case measure => simp [intOf]; omega
            · obtain ⟨rfl, hA⟩ := hC2 hjK
              have cp := Hpay.out j hlt
              have hne : ((j : Int) != (K : Int)) = true := by rw [bne_iff_ne]; omega
              have hne2 : (j != K) = true := by rw [bne_iff_ne]; exact hjK
              rw [← hA] at cp
              have hbW : b < (w1.drewN nq).heap.size := Nat.lt_of_lt_of_le hbl Hb1d.out.size
              clear hC1 hC2 hA
              go_wp2_with fail
              refine wp_region_ext (by kernel_rfl) (by kernel_rfl) fun K' hK' => ?_
              repeat (go_big_quiet_step ((go_at_call 15; exact Calls.ext_of (HN.out _))))
              refine wpQuiet_nil (hK' _ fun x => ?_)
              clear hK' K'
              have Hbr3 := Lib.hid (Hbr.out.ext x)
              have hbe3 := Hbe.out.trans (x.le.mono hz0)
              have cp2 := (hbe3.cell (p := ⟨b, off + j, none⟩) hbW).trans cp
              have Hbe3 := Lib.hid hbe3
              clear q2 q3 cp hbe3
              go_wp2_with fail
              go_roundw
              case rel => exact ⟨j + 1, by go_num, by omega, Hbr3.out, Hbe3.out⟩
              case measure => simp [intOf]; omega
          · go_wp2_with fail
            refine (known_any _).mono ?_
            rintro e w5 ⟨rfl, hb5⟩
            have hb6 := Hb1d.out.trans (Hbe.out.mono Hb1d.out.size)
            have Hb5 := Lib.hid (hb6.trans (hb5.mono hb6.size))
            clear hb5 hb6
            go_wp2_with fail
            go_ret
            exact ⟨rfl, Hb5.out⟩
  · have hrow2 := hrow.mono (fun e w' (x : _ ∧ _ ∧ _) => And.intro (x.2.1 hok) x.2.2)
    have Hrow := Lib.hid hrow2
    clear hrow hrow2 h hok
    go_enter Try.func8, Try.ntmps8
    go_wp2_with fail
    refine Hrow.out.mono ?_
    rintro e w1 ⟨rfl, hb1⟩
    have Hb1 := Lib.hid hb1
    clear hb1
    go_wp2_with fail
    refine (known_any _).mono ?_
    rintro e w2 ⟨rfl, hb2⟩
    have Hb2 := Lib.hid (Hb1.out.trans (hb2.mono Hb1.out.size))
    clear hb2
    go_wp2_with fail
    go_ret
    exact ⟨rfl, Hb2.out⟩
theorem walkFramesDamage (x : Value × List ByteArray) (which by_ : Int) (w : World) (h : RdE w x.1 x.2 ∧ x.2.length ≤ maxLen) (hk : 0 ≤ which ∧ which ≤ 65535) (hb : 0 ≤ by_ ∧ by_ ≤ 255) :
    Calls Try.prog 8 #[x.1, .int .u16 which, .int .u8 by_] w fun e w' => e = .returned (.bool true) ∧ Below w.heap.size w w' :=
  framesDamage_any x.1 which by_ x.2 w h.1 h.2 hk hb
end Go.Proofs.Ytkgleilcngnpfaa

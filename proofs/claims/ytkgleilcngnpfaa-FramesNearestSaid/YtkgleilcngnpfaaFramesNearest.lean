/- 'FramesNearest', walked. -/
import Derived.Test.YtkgleilcngnpfaaRowPlain
namespace Go.Proofs.Ytkgleilcngnpfaa
open Go.RowKit

theorem OwnI.each {w : World} {B : Nat} {v : Value} {l : List Int} (h : OwnI w B v l) : ∃ x c, v = .slice x l.length c ∧ ∀ (j : Nat) (hj : j < l.length), ∃ b off, x = some ⟨b, off, none⟩ ∧ b < w.heap.size ∧ w.cell? ⟨b, off + j, none⟩ = some (.int .i64 l[j]) := by
  rcases h.rd with ⟨c, rfl, rfl⟩ | ⟨b, off, c, rfl, hb, hc⟩
  · exact ⟨_, _, rfl, fun j hj => absurd hj (by simp)⟩
  · exact ⟨_, _, rfl, fun j hj => ⟨b, off, rfl, hb, hc j hj⟩⟩

set_option maxRecDepth 100000 in
set_option maxHeartbeats 1000000 in
theorem framesNearest_any (v : Value) (a : ByteArray) (place : Int) (l : List ByteArray) (w : World) (h : RdE w v l) (hm : l.length ≤ maxLen) (_ha : a.size ≤ maxLen) (hk : 0 ≤ place ∧ place ≤ 65535) :
    Calls Try.prog 9 #[v, .string a, .int .u16 place] w fun e w' => e = .returned (.bool true) ∧ Below w.heap.size w w' := by
  have hml : l.length ≤ 9223372036854775807 := by unfold maxLen at hm; omega
  have hrow := row_any v l w h hml
  obtain ⟨vx, vc, rfl, _⟩ := id h
  by_cases hok : rowOk l
  · obtain ⟨hn20, hsm⟩ := id hok
    have hTl := rowT_le l l.length (Nat.le_refl _) (fun j hj _ => hsm j hj)
    rw [List.take_length] at hTl
    have hTs := strOf_size (rowT l)
    obtain ⟨T, hT⟩ : ∃ T, strOf (rowT l) = T := ⟨_, rfl⟩
    have hTd : T.data.toList = rowT l := by rw [← hT]; rfl
    rw [hT] at hTs hrow
    have HTd := Lib.hid hTd
    have HTs := Lib.hid hTs
    have hTb : T.size ≤ 308 * 20 := by omega
    have hrow2 := hrow.mono (fun e w' (x : _ ∧ _ ∧ _) => And.intro (x.1 hok) x.2.2)
    have Hrow := Lib.hid hrow2
    have Hok := Lib.hid hok
    have hTT := fun W : World => twos_any T W (by omega)
    clear hrow hrow2 h hok hsm hT hTd hTs hTl
    by_cases ca : (a.size : Int) ≤ 100
    · have hTa := fun W : World => twos_any a W (by omega)
      have HTa := Lib.hid hTa
      have HTT := Lib.hid hTT
      clear hTa hTT
      by_cases c2 : (twosOf a.data.toList : Int) ≤ 0
      · by_cases c3 : (twosOf T.data.toList : Int) = l.length
        · obtain ⟨AT, hAT⟩ : ∃ AT : Nat, place % ((a.size : Int) + T.size + 1) = (AT : Int) := ⟨(place % ((a.size : Int) + T.size + 1)).toNat, by have := Int.emod_nonneg place (show (a.size : Int) + T.size + 1 ≠ 0 by omega); generalize place % ((a.size : Int) + T.size + 1) = r at *; omega⟩
          have hATb : AT ≤ 100000 := by
            have h1 := Int.emod_lt_of_pos place (show 0 < (a.size : Int) + T.size + 1 by omega)
            rw [hAT] at h1
            omega
          have Hfin := Lib.hid (fun want => near_done a l Hok.out (by omega) (by rw [← HTd.out]; omega) AT want)
          have hX : (a ++ T).data.toList = a.data.toList ++ rowT l := by rw [data_append, HTd.out]
          have hXz : (a ++ T).size = a.size + T.size := by rw [← len_list, data_append, List.length_append, len_list, len_list]
          have hR := fun W : World => resync_any (a ++ T) AT W (by omega) (by omega)
          rw [hX, Int.toNat_natCast] at hR
          have HR := Lib.hid hR
          have d3 : ((twosOf T.data.toList : Int) != l.length) = false := by rw [bne_eq_false_iff_eq]; exact c3
          clear hR hX hXz c3
          generalize twosOf a.data.toList = ta at *
          generalize twosOf T.data.toList = tt at *
          go_enter Try.func9, Try.ntmps9
          go_wp2_with fail
          refine Hrow.out.mono ?_
          rintro e w1 ⟨⟨vf, rfl, hown⟩, hb1⟩
          obtain ⟨fx, fc, rfl, hcs⟩ := hown.each
          rw [rowF_length]
          simp only [rowF_length] at hcs
          have Hcs := Lib.hid hcs
          have Hb1 := Lib.hid hb1
          clear hb1 hown hcs
          go_wp2_with fail
          refine (HTa.out _).mono ?_
          rintro e w2 ⟨rfl, hb2⟩
          have Hb2 := Lib.hid (Hb1.out.trans (hb2.mono Hb1.out.size))
          have Hb12 := Lib.hid hb2
          clear hb2 Hb1
          go_wp2_with fail
          refine (HTT.out _).mono ?_
          rintro e w3 ⟨rfl, hb3⟩
          have Hb3 := Lib.hid (Hb2.out.trans (hb3.mono Hb2.out.size))
          have Hb13 := Lib.hid (Hb12.out.trans (hb3.mono Hb12.out.size))
          clear hb3 Hb2 Hb12
          go_wp2_with fail
          simp only [hAT]
          clear hAT
          go_loopw [11, 12] (fun v11 v12 wr => ∃ (m W : Nat) (z : Int), v11 = .int .i64 W ∧ v12 = .int .i64 z ∧ z = (m : Int) - 1 ∧ m ≤ l.length ∧ W ≤ 100000 ∧
            NearInv l.length (fun i => a.size + rowB l i) (a.size + (rowT l).length) AT m W ∧ wr = w3) (fun _ v12 _ => (intOf v12 + 1).toNat)
          case atStart => exact ⟨l.length, a.size + T.size, _, by rw [Int.natCast_add], rfl, rfl, Nat.le_refl _, by omega, by rw [HTs.out]; exact NearInv.start _ _ _ _, rfl⟩
          case round =>
            obtain ⟨m, W, z, rfl, rfl, hz, hm', hW, hinv, rfl⟩ := hrel
            have Hinv := Lib.hid hinv
            clear hinv
            cases m with
            | zero =>
              have hzn : z < 0 := by omega
              have hzd : decide (0 ≤ z) = false := by rw [decide_eq_false_iff_not]; omega
              have hR := HR.out
              rw [Hfin.out W Hinv.out] at hR
              have HR2 := Lib.hid hR
              clear hR HR
              go_wp2_with fail
              refine (HR2.out _).mono ?_
              rintro e w4 ⟨rfl, hb4⟩
              have Hb4 := Lib.hid (Hb3.out.trans (hb4.mono Hb3.out.size))
              clear hb4
              go_wp2_with fail
              refine (known_any _).mono ?_
              rintro e w5 ⟨rfl, hb5⟩
              have Hb5 := Lib.hid (Hb4.out.trans (hb5.mono Hb4.out.size))
              clear hb5
              go_wp2_with fail
              go_ret
              exact ⟨rfl, Hb5.out⟩
            | succ m =>
              obtain rfl : z = (m : Int) := by omega
              clear hz
              obtain ⟨b, off, rfl, hbl, hcell⟩ := Hcs.out m (by omega)
              rw [rowF_get] at hcell
              have c1 := (Hb13.out.cell (p := ⟨b, off + m, none⟩) hbl).trans hcell
              have hB : rowB l m ≤ 308 * 20 := by
                have h1 := rowB_mono l m l.length (by omega) (Nat.le_refl _)
                rw [rowB_end, ← HTs.out] at h1
                omega
              clear hcell
              by_cases hge : (AT : Int) ≤ (a.size : Int) + (rowB l m : Int)
              · have Hn := Lib.hid (NearInv.hit (n := l.length) (c := fun i => a.size + rowB l i) (e := a.size + (rowT l).length) (k := AT) (m := m) (by omega) (by show AT ≤ a.size + rowB l m; omega))
                generalize hrb : rowB l m = rb at *
                have Hrb := Lib.hid hrb
                clear hrb
                go_wp2_with fail
                go_roundw
                case rel => exact ⟨m, a.size + rb, _, by rw [Int.natCast_add], rfl, rfl, by omega, by omega, by have := Hn.out; simpa [Hrb.out] using this, trivial⟩
                case measure => simp [intOf]; try omega
              · have Hn := Lib.hid (Hinv.out.miss (by show a.size + rowB l m < AT; omega))
                generalize rowB l m = rb at *
                go_wp2_with fail
                go_roundw
                case rel => exact ⟨m, W, _, rfl, rfl, rfl, by omega, hW, Hn.out, trivial⟩
                case measure => simp [intOf]; try omega
        · have d3 : ((twosOf T.data.toList : Int) != l.length) = true := by rw [bne_iff_ne]; exact c3
          clear c3
          generalize twosOf a.data.toList = ta at *
          generalize twosOf T.data.toList = tt at *
          go_enter Try.func9, Try.ntmps9
          go_wp2_with fail
          refine Hrow.out.mono ?_
          rintro e w1 ⟨⟨vf, rfl, hown⟩, hb1⟩
          obtain ⟨fx, fc, rfl, hcs⟩ := hown.each
          rw [rowF_length]
          have Hb1 := Lib.hid hb1
          clear hb1 hown hcs
          go_wp2_with fail
          refine (HTa.out _).mono ?_
          rintro e w2 ⟨rfl, hb2⟩
          have Hb2 := Lib.hid (Hb1.out.trans (hb2.mono Hb1.out.size))
          clear hb2 Hb1
          go_wp2_with fail
          refine (HTT.out _).mono ?_
          rintro e w3 ⟨rfl, hb3⟩
          have Hb3 := Lib.hid (Hb2.out.trans (hb3.mono Hb2.out.size))
          clear hb3 Hb2
          go_wp2_with fail
          refine (known_any _).mono ?_
          rintro e w4 ⟨rfl, hb4⟩
          have Hb4 := Lib.hid (Hb3.out.trans (hb4.mono Hb3.out.size))
          clear hb4
          go_wp2_with fail
          go_ret
          exact ⟨rfl, Hb4.out⟩
      · have c2' : (0 : Int) < (twosOf a.data.toList : Int) := by omega
        clear c2
        generalize twosOf a.data.toList = ta at *
        go_enter Try.func9, Try.ntmps9
        go_wp2_with fail
        refine Hrow.out.mono ?_
        rintro e w1 ⟨⟨vf, rfl, hown⟩, hb1⟩
        obtain ⟨fx, fc, rfl, hcs⟩ := hown.each
        rw [rowF_length]
        have Hb1 := Lib.hid hb1
        clear hb1 hown hcs
        go_wp2_with fail
        refine (HTa.out _).mono ?_
        rintro e w2 ⟨rfl, hb2⟩
        have Hb2 := Lib.hid (Hb1.out.trans (hb2.mono Hb1.out.size))
        clear hb2 Hb1
        go_wp2_with fail
        refine (known_any _).mono ?_
        rintro e w3 ⟨rfl, hb3⟩
        have Hb3 := Lib.hid (Hb2.out.trans (hb3.mono Hb2.out.size))
        clear hb3
        go_wp2_with fail
        go_ret
        exact ⟨rfl, Hb3.out⟩
    · have ca' : (100 : Int) < (a.size : Int) := by omega
      clear ca
      go_enter Try.func9, Try.ntmps9
      go_wp2_with fail
      refine Hrow.out.mono ?_
      rintro e w1 ⟨⟨vf, rfl, hown⟩, hb1⟩
      obtain ⟨fx, fc, rfl, hcs⟩ := hown.each
      rw [rowF_length]
      have Hb1 := Lib.hid hb1
      clear hb1 hown hcs
      go_wp2_with fail
      refine (known_any _).mono ?_
      rintro e w2 ⟨rfl, hb2⟩
      have Hb2 := Lib.hid (Hb1.out.trans (hb2.mono Hb1.out.size))
      clear hb2
      go_wp2_with fail
      go_ret
      exact ⟨rfl, Hb2.out⟩
  · have hrow2 := hrow.mono (fun e w' (x : _ ∧ _ ∧ _) => And.intro (x.2.1 hok) x.2.2)
    have Hrow := Lib.hid hrow2
    clear hrow hrow2 h hok
    go_enter Try.func9, Try.ntmps9
    go_wp2_with fail
    refine Hrow.out.mono ?_
    rintro e w1 ⟨rfl, hb1⟩
    have Hb1 := Lib.hid hb1
    clear hb1
    go_wp2_with fail
    refine (known_any _).mono ?_
    rintro e w2 ⟨rfl, hb2⟩
    have Hb2 := Lib.hid (Hb1.out.trans (hb2.mono Hb1.out.size))
    clear hb2
    go_wp2_with fail
    go_ret
    exact ⟨rfl, Hb2.out⟩
theorem walkFramesNearest (x : Value × List ByteArray) (a : ByteArray) (place : Int) (w : World) (h : RdE w x.1 x.2 ∧ x.2.length ≤ maxLen) (ha : a.size ≤ maxLen) (hk : 0 ≤ place ∧ place ≤ 65535) :
    Calls Try.prog 9 #[x.1, .string a, .int .u16 place] w fun e w' => e = .returned (.bool true) ∧ Below w.heap.size w w' :=
  framesNearest_any x.1 a place x.2 w h.1 h.2 ha hk
end Go.Proofs.Ytkgleilcngnpfaa

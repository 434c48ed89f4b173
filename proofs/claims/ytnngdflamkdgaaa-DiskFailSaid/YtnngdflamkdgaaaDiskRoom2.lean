/- 'DiskRoom', walked: the law. -/
import Derived.Test.YtnngdflamkdgaaaDiskRoom
import Derived.BigQuiet
namespace Go.Proofs.Ytnngdflamkdgaaa
open Go.RowKit Go.Maps
open Dsk

theorem OwnS.chg {S : Nat → Prop} {w w' : World} {B : Nat} {v : Value} {l : List ByteArray} (h : OwnS w B v l) (x : Chg S w w') (hS : ∀ k, v.ownBlock = some k → ¬ S k) : OwnS w' B v l := by
  have hlt := World.ownsRow.lt h
  obtain ⟨h1, h2⟩ := h
  refine ⟨h1, ?_⟩
  rcases h2 with h2 | ⟨g, cap, cur, hv, hg, hh, r⟩
  · exact .inl h2
  · refine .inr ⟨g, cap, cur, hv, hg, ?_, r⟩
    have hb : v.ownBlock = some g := by rw [hv]; rfl
    rw [x.block g (hlt g hb).2 (hS g hb), hh]
/-- A row that was made since w stays while what is kept is kept. -/
theorem OwnS.keeps {w w1 w2 : World} {X : Nat → Prop} {v : Value} {l : List ByteArray} (h : OwnS w1 w.heap.size v l) (x : Keeps (Also X w w1) w1 w2) : OwnS w2 w.heap.size v l :=
  h.chg x fun k hk hx => hx (.inr ((World.ownsRow.lt h) k hk))
set_option maxRecDepth 100000 in
set_option maxHeartbeats 8000000 in
theorem diskRoom_any (room : Int) (hr : 0 ≤ room ∧ room ≤ 65535) (v : Value) (l : List ActS) (w : World) (h : RdA w w.heap.size v l) (hm : l.length ≤ maxLen) :
    Calls Try.prog 4 #[.int .u16 room, v] w fun e w' => e = .returned (.bool true) ∧ Below w.heap.size w w' := by
  have hm2 : l.length ≤ 9223372036854775807 := by unfold maxLen at hm; omega
  have hg := great_any v l w.heap.size w h hm2
  obtain ⟨x, c, hv, hj⟩ := id h
  subst hv
  clear hj
  obtain ⟨m, hmm⟩ : ∃ m : Nat, 1 + room % 4000 = (m : Int) := ⟨(1 + room % 4000).toNat, by omega⟩
  have hm1 : 1 ≤ m ∧ m ≤ 4000 := by omega
  have hwr : IntKind.i64.wrap room = room := IntWalk.i64_in _ ⟨by omega, by omega⟩
  have Hg := Lib.hid hg
  have H := Lib.hid h
  have HM := Lib.hid hm1
  obtain ⟨hr1, hr2⟩ := hr
  clear h hm hg hm1
  go_enter Try.func4, Try.ntmps4
  go_wp2_with fail
  refine Hg.out.mono ?_
  rintro e w0 ⟨b, rfl, hsm, rfl⟩
  cases b with
  | true =>
    clear hsm
    go_wp2_with fail
    go_ret
    exact ⟨rfl, Below.refl _ _⟩
  | false =>
    have Hs := Lib.hid (hsm rfl)
    have hl150 : l.length ≤ 150 := Hs.out.1
    clear hsm Hg
    go_wp2_with fail
    refine (live_new m w HM.out.1 (by have := HM.out.2; omega)).mono ?_
    rintro e w1 ⟨u, rfl, hl⟩
    obtain ⟨bd, rfl⟩ := hl.ptr
    have HL := Lib.hid hl
    clear hl
    have hmle := HM.out.2
    go_wp2_with fail
    go_loopw [8, 9, 10, 11, 12, 13] (fun v8 _ _ _ _ _ wr => ∃ k : Nat, v8 = .int .i64 k ∧ k ≤ l.length ∧ Live w (fun _ => False) wr (.pointer (some ⟨bd, 0, none⟩)) (playsA (Dk.new m) (l.take k))) (fun v8 _ _ _ _ _ _ => l.length - (intOf v8).toNat)
    case atStart => exact ⟨0, rfl, Nat.zero_le _, HL.out⟩
    case round =>
      obtain ⟨k, rfl, hk, hl⟩ := hrel
      have HL2 := Lib.hid hl
      clear hl
      by_cases hlt : k < l.length
      · have Hsu := Lib.hid (playsA_succ (Dk.new m) l k hlt)
        have hroom := playsA_room (Dk.new m) (l.take k)
        obtain ⟨d, hd⟩ : ∃ d, d = playsA (Dk.new m) (l.take k) := ⟨_, rfl⟩
        rw [← hd] at HL2 Hsu hroom
        have hdr : d.room = m := hroom
        have hra := H.out.chg (Chg.of_below HL2.out.below (S := fun _ => False)) (fun _ e => e.elim)
        obtain ⟨x', c', hv, hel⟩ := hra
        injection hv with e1 e2 e3
        subst e1 e3
        obtain ⟨hj1, b, off, rfl, hbl0, hbl, hj2⟩ := hel k hlt
        clear hj1 hj2
        obtain ⟨a, ha⟩ : ∃ a, a = l[k] := ⟨_, rfl⟩
        have HA := Lib.hid ha
        have hkl : a.keep.length ≤ 100 := by rw [ha]; exact (Hs.out.2 k hlt).2.2.2
        have Hsu2 := Lib.hid (show playsA (Dk.new m) (l.take (k + 1)) = (stepA d a).2 by rw [HA.out]; exact Hsu.out)
        clear hel ha hd hroom Hsu
        go_wp2_with fail
        refine HL2.out.sizes.mono ?_
        rintro e w2 ⟨rfl, hb2⟩
        have HL3 := Lib.hid (HL2.out.keep hb2)
        clear hb2
        go_wp2_with fail
        refine HL3.out.names.mono ?_
        rintro e w3 ⟨un, rfl, hun, hb3⟩
        have HL4 := Lib.hid (HL3.out.add hb3)
        obtain ⟨nx, nc, hnx, hj1⟩ := hun.each
        subst hnx
        clear hj1
        rw [names_len] at *
        have Hun := Lib.hid hun
        have hb3s := hb3.size
        have hra := H.out.chg (Chg.of_below HL4.out.below (S := fun _ => False)) (fun _ e => e.elim)
        obtain ⟨x', c', hv, hel⟩ := hra
        injection hv with e1 e2 e3
        subst e1 e3
        obtain ⟨ho, b', off', hbb, _, hbl3, hc⟩ := hel k hlt
        injection hbb with hbb
        injection hbb with hb1 hb2
        subst hb1 hb2
        obtain ⟨c0, c1, c2, c3, c4, c5⟩ := act_load (b := b) (off := off + k * 6) (a := l[k]) (fun i hi => by rw [Nat.add_assoc]; exact hc i hi)
        rw [← HA.out] at c0 c1 c2 c3 c4 c5 ho
        have HD := Lib.hid (HL4.out.done a ho (by omega))
        unfold actV at HD
        clear hun hb3 hel hc ho
        go_wp2_with fail
        refine HD.out.mono ?_
        rintro e w4 ⟨rfl, hl5, hk5⟩
        have hun4 := Hun.out.keeps hk5
        have Hun4 := Lib.hid hun4
        have HL5 := Lib.hid hl5
        have hokd := hl5.ok
        have hroom2 := stepA_room d a
        rw [hdr] at hroom2
        have hful := stepA_full d a
        obtain ⟨r, hr⟩ : ∃ r, r = (stepA d a).1 := ⟨_, rfl⟩
        obtain ⟨d2, hd2⟩ : ∃ d2, d2 = (stepA d a).2 := ⟨_, rfl⟩
        rw [← hr, ← hd2] at hful
        rw [← hr]
        rw [← hd2] at HL5 hokd hroom2 Hsu2
        have hfit := hokd.fits
        rw [hroom2] at hfit
        have hcnt := hokd.count
        have Hokd := Lib.hid hokd
        have Hful := Lib.hid hful
        clear hun4 hl5 hk5 hokd hroom2 hful hr hd2
        clear HD c0 c1 c2 c3 c4 c5
        go_wp2_with fail
        refine HL5.out.names.mono ?_
        rintro e w5 ⟨un2, rfl, hun2, hb5⟩
        have HL6 := Lib.hid (HL5.out.add hb5)
        have hun5 := Hun4.out.kept hb5
        obtain ⟨nx2, nc2, hnx2, hcell2⟩ := hun2.each
        subst hnx2
        rw [names_len] at *
        have Hun5 := Lib.hid hun5
        have Hun2 := Lib.hid hun2
        have Hcell2 := Lib.hid hcell2
        clear hun2 hb5 hun5 hcell2
        by_cases h50 : r = 50
        · have hdd := Hful.out h50
          subst h50
          have qt : ((total d2.files : Int) != total d.files) = false := by rw [hdd]; simp
          have qt' : (total d2.files != total d.files) = false := by rw [hdd]; simp
          have qm : decide ((m : Int) < total d2.files) = false := decide_eq_false (by omega)
          have qm' : decide (m < total d2.files) = false := decide_eq_false (by omega)
          have ql' : decide (1024 < d2.files.length) = false := decide_eq_false (by omega)
          have ql : decide ((1024 : Int) < d2.files.length) = false := decide_eq_false (by omega)
          have Hst := Lib.hid (show ∀ W : World, Below w5.heap.size w5 W → Calls Try.prog 22 #[.slice nx2 d2.files.length nc2, .slice nx d.files.length nc] W fun e w' => e = .returned (.bool true) ∧ Below W.heap.size W w' from fun W hW => by
            have l2 := (names_len d2.files)
            have l1 := (names_len d.files)
            have h2 := (Hun2.out.kept hW).rd
            have h1 := (Hun5.out.kept hW).rd
            refine (sameTexts_any _ _ _ _ W h2 h1 (by rw [l2]; omega) (by rw [l1]; have := hcnt; rw [hdd] at this; omega)).mono ?_
            rintro e w' ⟨rfl, hb⟩
            exact ⟨by rw [hdd]; simp, hb⟩)
          have Hdd := Lib.hid hdd
          clear hdd
          go_wp2_with fail
          refine HL6.out.sizes.mono ?_
          rintro e w6 ⟨rfl, hb6⟩
          have HL7 := Lib.hid (HL6.out.keep hb6)
          have Hb6 := Lib.hid hb6
          clear hb6
          go_wp2_with fail
          refine (Hst.out w6 Hb6.out).mono ?_
          rintro e w7 ⟨rfl, hb7⟩
          have HL8 := Lib.hid (HL7.out.keep hb7)
          have Hb7 := Lib.hid (Hb6.out.trans (hb7.mono Hb6.out.size))
          clear hb7
          go_wp2_with fail
          refine HL8.out.sizes.mono ?_
          rintro e w8 ⟨rfl, hb8⟩
          have HL9 := Lib.hid (HL8.out.keep hb8)
          have Hb8 := Lib.hid (Hb7.out.trans (hb8.mono Hb7.out.size))
          clear hb8
          go_wp2_with fail
          go_loopw [13] (fun v13 wq => ∃ j : Nat, v13 = .int .i64 j ∧ j ≤ d2.files.length ∧ ∃ n, wq = w8.drewN n) (fun v13 _ => d2.files.length - (intOf v13).toNat)
          case atStart => exact ⟨0, rfl, Nat.zero_le _, 0, rfl⟩
          case round =>
            obtain ⟨j, rfl, hj, nd, rfl⟩ := hrel
            by_cases hjl : j < d2.files.length
            · obtain ⟨gb, hgx, hgb, hgl, hgc⟩ := Hcell2.out j (by rw [names_len]; exact hjl)
              subst hgx
              rw [strs_get d2.files j hjl] at hgc
              have hnm := Hokd.out.named _ (List.getElem_mem hjl)
              obtain ⟨nj, hnj⟩ : ∃ nj : ByteArray, nj = ⟨d2.files[j].1.toArray⟩ := ⟨_, rfl⟩
              rw [← hnj] at hgc
              have hnjl : nj.toList = d2.files[j].1 := by rw [hnj, ByteArray.toList_eq]
              have hnjs : nj.size = d2.files[j].1.length := by rw [hnj]; exact List.size_toArray
              unfold Named at hnm
              rw [← hnjs] at hnm
              obtain ⟨hnm1, hnm2⟩ := hnm
              have q1 : (nj.toList == []) = false := by
                rw [beq_eq_false_iff_ne]
                intro e
                rw [e] at hnjl
                rw [hnjs, ← hnjl] at hnm1
                simp at hnm1
              have q1' : nj.toList.isEmpty = false := by
                cases e : nj.toList with
                | nil => rw [e] at q1; simp at q1
                | cons _ _ => rfl
              have q2 : decide ((16 : Int) < nj.size) = false := decide_eq_false (by omega)
              have gc1 : w8.cell? ⟨gb, j, none⟩ = some (.string nj) := ((Hb8.out.cell (p := ⟨gb, j, none⟩) hgl).trans hgc)
              by_cases hj0 : j = 0
              · have q3 : decide ((0 : Int) < (j : Int)) = false := decide_eq_false (by omega)
                have q3' : decide (0 < j) = false := decide_eq_false (by omega)
                have HJ := Lib.hid hj0
                have hjd : (j : Int) < d2.files.length := by omega
                clear hgc hnj hnjl hnjs hnm1 hnm2 hj0
                go_wp2_with fail
                go_quiet (fail)
                go_wp2_with fail
                go_roundw
                case rel => exact ⟨j + 1, by go_num, by omega, nd + nq, rfl⟩
                case measure => simp [intOf]; omega
              · have q3 : decide ((0 : Int) < (j : Int)) = true := decide_eq_true (by omega)
                have q3' : decide (0 < j) = true := decide_eq_true (by omega)
                have hjd : (j : Int) < d2.files.length := by omega
                have hjp : j - 1 < d2.files.length := by omega
                obtain ⟨gb', hgx', _, hgl', hgc'⟩ := Hcell2.out (j - 1) (by rw [names_len]; exact hjp)
                injection hgx' with hgx'
                injection hgx' with hgx' _ _
                subst hgx'
                rw [strs_get d2.files (j - 1) hjp] at hgc'
                have hris := names_at_rising Hokd.out.rising j hjl (by omega)
                obtain ⟨np, hnp⟩ : ∃ np : ByteArray, np = ⟨d2.files[j - 1].1.toArray⟩ := ⟨_, rfl⟩
                rw [← hnp] at hgc'
                have hnpl : np.toList = d2.files[j - 1].1 := by rw [hnp, ByteArray.toList_eq]
                have hlq := leq_false hris
                rw [← hnpl, ← hnjl, Bool.or_eq_false_iff] at hlq
                obtain ⟨q4, q5⟩ := hlq
                have gc2 : w8.cell? ⟨gb, j - 1, none⟩ = some (.string np) := ((Hb8.out.cell (p := ⟨gb, j - 1, none⟩) hgl').trans hgc')
                have q6 : IntKind.i64.wrap ((j : Int) - 1) = (j : Int) - 1 := IntWalk.i64_in _ ⟨by omega, by omega⟩
                have q7 : ((j : Int) - 1).toNat = j - 1 := by omega
                have q8 : (1 : Int) ≤ (j : Int) := by omega
                have q9 : (0 : Int) ≤ (j : Int) - 1 := by omega
                have q10 : (j : Int) - 1 < d2.files.length := by omega
                clear hgc hnj hnjl hnjs hnm1 hnm2 hgc' hnp hnpl hris
                go_wp2_with fail
                go_quiet (fail)
                clear q6 q7
                go_wp2_with fail
                go_roundw
                case rel =>
                  exact ⟨j + 1, by go_num, by omega, nd + nq, rfl⟩
                case measure => simp [intOf]; omega
            · go_wp2_with fail
              have Hend := Lib.hid ((HL9.out.keep (below_drewN (Below.refl _ _) nd)).drop (Y := fun _ => False) (fun _ e => e.elim))
              go_roundw
              case rel => exact ⟨k + 1, by go_num, by omega, by rw [Hsu2.out]; exact Hend.out⟩
              case measure => simp [intOf]; omega
        · have q50 : (r == 50) = false := by rw [beq_eq_false_iff_ne]; exact h50
          have qm : decide ((m : Int) < total d2.files) = false := decide_eq_false (by omega)
          have qm' : decide (m < total d2.files) = false := decide_eq_false (by omega)
          have ql' : decide (1024 < d2.files.length) = false := decide_eq_false (by omega)
          have ql : decide ((1024 : Int) < d2.files.length) = false := decide_eq_false (by omega)
          go_wp2_with fail
          refine HL6.out.sizes.mono ?_
          rintro e w6 ⟨rfl, hb6⟩
          have HL7 := Lib.hid (HL6.out.keep hb6)
          have Hb6 := Lib.hid hb6
          clear hb6
          go_wp2_with fail
          go_loopw [13] (fun v13 wq => ∃ j : Nat, v13 = .int .i64 j ∧ j ≤ d2.files.length ∧ ∃ n, wq = w6.drewN n) (fun v13 _ => d2.files.length - (intOf v13).toNat)
          case atStart => exact ⟨0, rfl, Nat.zero_le _, 0, rfl⟩
          case round =>
            obtain ⟨j, rfl, hj, nd, rfl⟩ := hrel
            by_cases hjl : j < d2.files.length
            · obtain ⟨gb, hgx, hgb, hgl, hgc⟩ := Hcell2.out j (by rw [names_len]; exact hjl)
              subst hgx
              rw [strs_get d2.files j hjl] at hgc
              have hnm := Hokd.out.named _ (List.getElem_mem hjl)
              obtain ⟨nj, hnj⟩ : ∃ nj : ByteArray, nj = ⟨d2.files[j].1.toArray⟩ := ⟨_, rfl⟩
              rw [← hnj] at hgc
              have hnjl : nj.toList = d2.files[j].1 := by rw [hnj, ByteArray.toList_eq]
              have hnjs : nj.size = d2.files[j].1.length := by rw [hnj]; exact List.size_toArray
              unfold Named at hnm
              rw [← hnjs] at hnm
              obtain ⟨hnm1, hnm2⟩ := hnm
              have q1 : (nj.toList == []) = false := by
                rw [beq_eq_false_iff_ne]
                intro e
                rw [e] at hnjl
                rw [hnjs, ← hnjl] at hnm1
                simp at hnm1
              have q1' : nj.toList.isEmpty = false := by
                cases e : nj.toList with
                | nil => rw [e] at q1; simp at q1
                | cons _ _ => rfl
              have q2 : decide ((16 : Int) < nj.size) = false := decide_eq_false (by omega)
              have gc1 : w6.cell? ⟨gb, j, none⟩ = some (.string nj) := ((Hb6.out.cell (p := ⟨gb, j, none⟩) hgl).trans hgc)
              by_cases hj0 : j = 0
              · have q3 : decide ((0 : Int) < (j : Int)) = false := decide_eq_false (by omega)
                have q3' : decide (0 < j) = false := decide_eq_false (by omega)
                have HJ := Lib.hid hj0
                have hjd : (j : Int) < d2.files.length := by omega
                clear hgc hnj hnjl hnjs hnm1 hnm2 hj0
                go_wp2_with fail
                go_quiet (fail)
                go_wp2_with fail
                go_roundw
                case rel => exact ⟨j + 1, by go_num, by omega, nd + nq, rfl⟩
                case measure => simp [intOf]; omega
              · have q3 : decide ((0 : Int) < (j : Int)) = true := decide_eq_true (by omega)
                have q3' : decide (0 < j) = true := decide_eq_true (by omega)
                have hjd : (j : Int) < d2.files.length := by omega
                have hjp : j - 1 < d2.files.length := by omega
                obtain ⟨gb', hgx', _, hgl', hgc'⟩ := Hcell2.out (j - 1) (by rw [names_len]; exact hjp)
                injection hgx' with hgx'
                injection hgx' with hgx' _ _
                subst hgx'
                rw [strs_get d2.files (j - 1) hjp] at hgc'
                have hris := names_at_rising Hokd.out.rising j hjl (by omega)
                obtain ⟨np, hnp⟩ : ∃ np : ByteArray, np = ⟨d2.files[j - 1].1.toArray⟩ := ⟨_, rfl⟩
                rw [← hnp] at hgc'
                have hnpl : np.toList = d2.files[j - 1].1 := by rw [hnp, ByteArray.toList_eq]
                have hlq := leq_false hris
                rw [← hnpl, ← hnjl, Bool.or_eq_false_iff] at hlq
                obtain ⟨q4, q5⟩ := hlq
                have gc2 : w6.cell? ⟨gb, j - 1, none⟩ = some (.string np) := ((Hb6.out.cell (p := ⟨gb, j - 1, none⟩) hgl').trans hgc')
                have q6 : IntKind.i64.wrap ((j : Int) - 1) = (j : Int) - 1 := IntWalk.i64_in _ ⟨by omega, by omega⟩
                have q7 : ((j : Int) - 1).toNat = j - 1 := by omega
                have q8 : (1 : Int) ≤ (j : Int) := by omega
                have q9 : (0 : Int) ≤ (j : Int) - 1 := by omega
                have q10 : (j : Int) - 1 < d2.files.length := by omega
                clear hgc hnj hnjl hnjs hnm1 hnm2 hgc' hnp hnpl hris
                go_wp2_with fail
                go_quiet (fail)
                clear q6 q7
                go_wp2_with fail
                go_roundw
                case rel =>
                  exact ⟨j + 1, by go_num, by omega, nd + nq, rfl⟩
                case measure => simp [intOf]; omega
            · go_wp2_with fail
              have Hend := Lib.hid ((HL7.out.keep (below_drewN (Below.refl _ _) nd)).drop (Y := fun _ => False) (fun _ e => e.elim))
              go_roundw
              case rel => exact ⟨k + 1, by go_num, by omega, by rw [Hsu2.out]; exact Hend.out⟩
              case measure => simp [intOf]; omega
      · obtain rfl : k = l.length := by omega
        go_wp2_with fail
        refine (does_any _).mono ?_
        rintro e w9 ⟨rfl, hb9⟩
        have HB := Lib.hid (HL2.out.below.trans (hb9.mono HL2.out.size))
        clear hb9
        go_wp2_with fail
        go_ret
        exact ⟨rfl, HB.out⟩
theorem walkDiskRoom (room : Int) (x : Value × List ActS) (w : World) (h0 : 0 ≤ room ∧ room ≤ 65535) (h1 : RdA w w.heap.size x.1 x.2 ∧ x.2.length ≤ maxLen) :
    Calls Try.prog 4 #[.int .u16 room, x.1] w fun e w' => e = .returned (.bool true) ∧ Below w.heap.size w w' :=
  diskRoom_any room h0 x.1 x.2 w h1.1 h1.2
end Go.Proofs.Ytnngdflamkdgaaa

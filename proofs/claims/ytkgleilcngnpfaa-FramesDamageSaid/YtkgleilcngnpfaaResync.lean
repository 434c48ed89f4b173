/- The iterator of the places at which frames stand, and who asks it for the first one. -/
import Derived.RangeFuncNested
import Derived.RangeFuncBound
import Derived.RangeFuncCalls
import Derived.RangeFuncLeaves
import Derived.Shelf.Abstract
import Derived.Shelf.RegionOpen
import Derived.WalkKit
import Derived.OwnWalkIn
import Derived.TacticsInMore
import Derived.LoopNIn
import Derived.LoopIn
import Derived.Test.YtkgleilcngnpfaaFrames
import Derived.Test.YtkgleilcngnpfaaIndexByte
namespace Go.Proofs.Ytkgleilcngnpfaa
open Go.RowKit

attribute [local go_sem] Oper.semAt_some

theorem next_any (s : ByteArray) (k : Nat) (w : World) (hm : s.size ≤ 140737488355328) (hk : k ≤ s.size) :
    CallsIn Fence.wide 9 Try.prog 15 #[.string s, .int .i64 k] w fun e w' => e = .returned (nextR s.data.toList k) ∧ Below w.heap.size w w' := callsIn_wide.2 (next_in s k w hm hk)

theorem len_list (s : ByteArray) : s.data.toList.length = s.size := by simp
theorem indexByte_spec (l : List UInt8) (c : UInt8) :
    (Lib.indexByte l c = -1 ∧ ∀ j : Nat, l[j]? ≠ some c) ∨ (∃ m : Nat, Lib.indexByte l c = m ∧ m < l.length ∧ l[m]? = some c ∧ ∀ j : Nat, j < m → l[j]? ≠ some c) := by
  induction l with
  | nil => exact .inl ⟨rfl, fun j => by simp⟩
  | cons b l ih =>
    by_cases hb : b = c
    · subst hb
      exact .inr ⟨0, by simp [Lib.indexByte], by simp, by simp, fun j h => absurd h (by omega)⟩
    · rcases ih with ⟨h1, h2⟩ | ⟨m, h1, h2, h3, h4⟩
      · refine .inl ⟨by simp [Lib.indexByte, hb, h1], fun j => ?_⟩
        cases j with
        | zero => simpa using hb
        | succ j => simpa using h2 j
      · refine .inr ⟨m + 1, ?_, by simpa using h2, by simpa using h3, fun j hj => ?_⟩
        · have hne : ¬ ((m : Int) = -1) := by omega
          simp [Lib.indexByte, hb, h1, hne]
        · cases j with
          | zero => simpa using hb
          | succ j => simpa using h4 j (by omega)

set_option maxRecDepth 100000 in
set_option maxHeartbeats 1000000 in
theorem places1_in (l bS bAt : Nat) (s : ByteArray) (k0 : Int) (W : World) (tS tAt : TypeId) (hm : s.size ≤ 140737488355328) (hb : -9223372036854775808 ≤ k0 ∧ k0 ≤ 9223372036854775807)
    (hS : Blk W bS tS #[.string s]) (hAt : Blk W bAt tAt #[.int .i64 k0]) (hne : bS ≠ bAt) (Left : Nat → World → World → Prop)
    (hY : ∀ (x : Nat) (W1 : World), Chg (· = bAt) W W1 → YieldAt Fence.wide 8 Try.prog l #[.int .i64 x] W1 fun e W' => e = .returned (.bool false) ∧ Left x W1 W') :
    CallsIn Fence.wide 9 Try.prog 32 (#[.func (.yield l) #[] #[]] ++ #[.pointer (some ⟨bAt, 0, none⟩), .pointer (some ⟨bS, 0, none⟩)]) W fun e W' => (∃ v, e = .returned v) ∧
      ((∃ (x : Nat) (W1 : World), x = Frm.resync s.data.toList k0.toNat ∧ x < s.size ∧ Chg (· = bAt) W W1 ∧ Left x W1 W') ∨ (Frm.resync s.data.toList k0.toNat = s.size ∧ Chg (· = bAt) W W')) := by
  have q0 : W.cell? ⟨bS, 0, none⟩ = some (.string s) := hS.cell 0
  have q1 : W.cell? ⟨bAt, 0, none⟩ = some (.int .i64 k0) := hAt.cell 0
  have q2 := hAt.free 0
  obtain ⟨k, hk⟩ : ∃ k : Nat, k = k0.toNat := ⟨_, rfl⟩
  rw [← hk]
  have hkb : k ≤ 9223372036854775807 := by omega
  have HK := Lib.hid hk
  have hA2 : Blk (W.setCell ⟨bAt, 0, none⟩ (.int .i64 k)) bAt tAt #[.int .i64 k] := hAt.set 0 _
  have hC2 : Chg (· = bAt) W (W.setCell ⟨bAt, 0, none⟩ (.int .i64 k)) := (Chg.refl (· = bAt) W).setCell (p := ⟨bAt, 0, none⟩) (fun _ => rfl) _
  have HA2 := Lib.hid hA2
  have HC2 := Lib.hid hC2
  have HS := Lib.hid hS
  clear hA2 hC2 hk hAt hS
  refine callsIn_of_wp Try.func32 rfl trivial ?_ rfl
  simp only [Try.ntmps32, List.size_toArray, List.length_cons, List.length_nil, Nat.reduceAdd, Nat.reduceSub, Array.replicate_succ, Array.replicate_zero, List.push_toArray, List.append_toArray, List.nil_append, List.cons_append]
  by_cases h0 : k0 < 0
  · obtain rfl : k = 0 := by have := HK.out; omega
    clear HK
    gi_wp2_with fail
    gi_loopw [4] (fun v4 wr => ∃ i : Nat, Blk wr bAt tAt #[.int .i64 i] ∧ 0 ≤ i ∧ (i ≤ s.size ∨ i = 0) ∧ (∀ j, 0 ≤ j → j < i → Frm.nextAt (s.data.toList.drop j) = none) ∧ Chg (· = bAt) W wr) (fun _ wr => s.size - (intOf ((wr.cell? ⟨bAt, 0, none⟩).getD undef)).toNat)
    case atStart => exact ⟨0, HA2.out, Nat.le_refl _, .inr rfl, fun j h1 h2 => absurd h2 (by omega), HC2.out⟩
    case round =>
      obtain ⟨i, hbi, hi1, hi2, hi3, hci⟩ := hrel
      have c0 : wr.cell? ⟨bS, 0, none⟩ = some (.string s) := (HS.out.chg hci hne).cell 0
      have c1 : wr.cell? ⟨bAt, 0, none⟩ = some (.int .i64 i) := hbi.cell 0
      have c2 := hbi.free 0
      have hib : (i : Int) ≤ 9223372036854775807 := by omega
      have C1 := Lib.hid c1
      have Hbi := Lib.hid hbi
      have Hi3 := Lib.hid hi3
      have Hci := Lib.hid hci
      clear hbi hi3 hci
      by_cases hlt : i < s.size
      · have hsp := indexByte_spec (s.data.toList.drop i) 2
        gi_wp2_with fail
        refine ⟨trivial, (callsIn_wide.2 (indexByte_any _ 2 _)).mono ?_⟩
        rintro e w1 ⟨rfl, hb1⟩
        rw [tail_list]
        have hbi1 := Hbi.out.below hb1
        have hbs1 := (HS.out.chg Hci.out hne).below hb1
        have d0 : w1.cell? ⟨bS, 0, none⟩ = some (.string s) := hbs1.cell 0
        have d1 : w1.cell? ⟨bAt, 0, none⟩ = some (.int .i64 i) := hbi1.cell 0
        have d2 := hbi1.free 0
        have Hci1 := Lib.hid (Hci.out.trans (Chg.of_below hb1))
        have Hbi1 := Lib.hid hbi1
        have Hbs1 := Lib.hid hbs1
        clear hb1 hbi1 hbs1 Hbi Hci c0 c1 c2
        rcases hsp with ⟨hx, hno⟩ | ⟨m, hx, hml, hm2, hmn⟩
        · rw [hx]
          have Hres := Lib.hid (show Frm.resync s.data.toList 0 = s.size from by
            have := Frm.resync_of_none s.data.toList 0 (fun j h1 h2 => by
              by_cases hj : j < i
              · exact Hi3.out j h1 hj
              · exact Frm.nextAt_bare _ (by
                  rw [List.getElem?_drop]
                  have := hno (j - i)
                  rw [List.getElem?_drop, show i + (j - i) = j by omega] at this
                  simpa using this))
            simpa using this)
          clear hx hno
          gi_wp2_with fail
          refine bodyPost_ret (results_none rfl _ _ _) rfl ?_
          exact ⟨⟨_, rfl⟩, .inr ⟨Hres.out, Hci1.out⟩⟩
        · rw [hx]
          have hmb : (m : Int) ≥ 0 := by omega
          have hmi : i + m < s.size := by
            have h : m < (s.data.toList.drop i).length := hml
            rw [List.length_drop] at h
            have : s.data.toList.length = s.size := by simp
            omega
          have hnone := Lib.hid (show ∀ j, 0 ≤ j → j < i + m → Frm.nextAt (s.data.toList.drop j) = none from fun j h1 h2 => by
            by_cases hj : j < i
            · exact Hi3.out j h1 hj
            · exact Frm.nextAt_bare _ (by
                rw [List.getElem?_drop]
                have := hmn (j - i) (by omega)
                rw [List.getElem?_drop, show i + (j - i) = j by omega] at this
                simpa using this))
          have hset := Hbi1.out.set 0 (.int .i64 ((i : Int) + m))
          have hset' : Blk (w1.setCell ⟨bAt, 0, none⟩ (.int .i64 ((i : Int) + m))) bAt tAt #[.int .i64 ((i + m : Nat) : Int)] := hset
          have f0 : (w1.setCell ⟨bAt, 0, none⟩ (.int .i64 ((i : Int) + m))).cell? ⟨bAt, 0, none⟩ = some (.int .i64 ((i : Int) + m)) := hset.cell 0
          have f1 := hset.free 0
          have hbs2 := Hbs1.out.chg ((Chg.refl (· = bAt) w1).setCell (p := ⟨bAt, 0, none⟩) (fun _ => rfl) (.int .i64 ((i : Int) + m))) hne
          have f2 : (w1.setCell ⟨bAt, 0, none⟩ (.int .i64 ((i : Int) + m))).cell? ⟨bS, 0, none⟩ = some (.string s) := hbs2.cell 0
          have Hset := Lib.hid hset'
          have Hbs2 := Lib.hid hbs2
          have Hci2 := Lib.hid (Hci1.out.setCell (p := ⟨bAt, 0, none⟩) (fun _ => rfl) (.int .i64 ((i : Int) + m)))
          clear hx hml hm2 hmn hset hset' hbs2 Hci1
          have hnx := fun W : World => (callsIn_wide (n := 8)).2 (next_in s (i + m) W hm (by omega))
          rw [Int.natCast_add] at hnx
          have Hnx := Lib.hid hnx
          clear hnx
          gi_wp2_with fail
          refine ⟨trivial, (Hnx.out _).mono ?_⟩
          rintro e w2 ⟨rfl, hb2⟩
          have hs2 := Hset.out.below hb2
          have g0 : w2.cell? ⟨bS, 0, none⟩ = some (.string s) := (Hbs2.out.below hb2).cell 0
          have g1 : w2.cell? ⟨bAt, 0, none⟩ = some (.int .i64 ((i : Int) + m)) := hs2.cell 0
          have g2 := hs2.free 0
          have Hs2 := Lib.hid hs2
          have Hci3 := Lib.hid (Hci2.out.trans (Chg.of_below hb2))
          clear hb2 hs2 f0 f1 f2 d0 d1 d2 Hset Hbs2 Hci2 Hnx Hbi1 Hbs1
          cases hnn : Frm.nextAt (s.data.toList.drop (i + m)) with
          | none =>
            have hv : nextR s.data.toList (i + m) = .tuple #[.string ⟨#[]⟩, .int .i64 0, .bool false] := by unfold nextR; rw [hnn]
            rw [hv]
            have Hnn := Lib.hid hnn
            have hst := Hs2.out.set 0 (.int .i64 ((i : Int) + m + 1))
            have Hst := Lib.hid hst
            have Hci4 := Lib.hid (Hci3.out.setCell (p := ⟨bAt, 0, none⟩) (fun _ => rfl) (.int .i64 ((i : Int) + m + 1)))
            have g3 : (w2.setCell ⟨bAt, 0, none⟩ (.int .i64 ((i : Int) + m + 1))).cell? ⟨bAt, 0, none⟩ = some (.int .i64 ((i : Int) + m + 1)) := hst.cell 0
            clear hv hnn hst
            gi_wp2_with fail
            refine ⟨fun _ h => (by cases h), ?_⟩
            gi_wp2_with fail
            go_roundw
            case rel => exact ⟨i + m + 1, by have := Hst.out; exact this, by omega, .inl (by omega), fun j h1 h2 => (by
              by_cases hj : j < i + m
              · exact hnone.out j h1 hj
              · obtain rfl : j = i + m := by omega
                exact Hnn.out), Hci4.out⟩
            case measure => rw [C1.out]; simp [intOf, g3]; omega
          | some p =>
            have hv : nextR s.data.toList (i + m) = .tuple #[.string ⟨p.toArray⟩, .int .i64 ((i + m + p.length + 8 : Nat) : Int), .bool true] := by unfold nextR; rw [hnn]
            rw [hv]
            have Hnn := Lib.hid hnn
            obtain ⟨fn, tmps, assign, body, hy, hR⟩ := hY (i + m) w2 Hci3.out
            rw [Int.natCast_add] at hy
            have HR := Lib.hid hR
            clear hv hnn hR
            have Hres := Lib.hid (Frm.resync_of_found s.data.toList 0 (i + m) (by omega) (by rw [len_list]; exact hmi) (by rw [Hnn.out]; rfl) hnone.out)
            gi_wp2_with fail
            refine HR.out.mono ?_
            rintro e w3 ⟨rfl, hleft⟩
            have Hleft := Lib.hid hleft
            clear hleft
            gi_wp2_with fail
            refine bodyPost_ret (results_none rfl _ _ _) rfl ?_
            exact ⟨⟨_, rfl⟩, .inl ⟨i + m, w2, Hres.out.symm, hmi, Hci3.out, Hleft.out⟩⟩
      · have Hres := Lib.hid (show Frm.resync s.data.toList 0 = s.size from by
          have := Frm.resync_of_none s.data.toList 0 (fun j h1 h2 => Hi3.out j h1 (by rw [len_list] at h2; omega))
          simpa using this)
        gi_wp2_with fail
        go_end0
        exact ⟨⟨_, rfl⟩, .inr ⟨Hres.out, Hci.out⟩⟩
  · obtain rfl : k0 = (k : Int) := by have := HK.out; omega
    clear HK
    gi_wp2_with fail
    gi_loopw [4] (fun v4 wr => ∃ i : Nat, Blk wr bAt tAt #[.int .i64 i] ∧ k ≤ i ∧ (i ≤ s.size ∨ i = k) ∧ (∀ j, k ≤ j → j < i → Frm.nextAt (s.data.toList.drop j) = none) ∧ Chg (· = bAt) W wr) (fun _ wr => s.size - (intOf ((wr.cell? ⟨bAt, 0, none⟩).getD undef)).toNat)
    case atStart => exact ⟨k, HA2.out, Nat.le_refl _, .inr rfl, fun j h1 h2 => absurd h2 (by omega), HC2.out⟩
    case round =>
      obtain ⟨i, hbi, hi1, hi2, hi3, hci⟩ := hrel
      have c0 : wr.cell? ⟨bS, 0, none⟩ = some (.string s) := (HS.out.chg hci hne).cell 0
      have c1 : wr.cell? ⟨bAt, 0, none⟩ = some (.int .i64 i) := hbi.cell 0
      have c2 := hbi.free 0
      have hib : (i : Int) ≤ 9223372036854775807 := by omega
      have C1 := Lib.hid c1
      have Hbi := Lib.hid hbi
      have Hi3 := Lib.hid hi3
      have Hci := Lib.hid hci
      clear hbi hi3 hci
      by_cases hlt : i < s.size
      · have hsp := indexByte_spec (s.data.toList.drop i) 2
        gi_wp2_with fail
        refine ⟨trivial, (callsIn_wide.2 (indexByte_any _ 2 _)).mono ?_⟩
        rintro e w1 ⟨rfl, hb1⟩
        rw [tail_list]
        have hbi1 := Hbi.out.below hb1
        have hbs1 := (HS.out.chg Hci.out hne).below hb1
        have d0 : w1.cell? ⟨bS, 0, none⟩ = some (.string s) := hbs1.cell 0
        have d1 : w1.cell? ⟨bAt, 0, none⟩ = some (.int .i64 i) := hbi1.cell 0
        have d2 := hbi1.free 0
        have Hci1 := Lib.hid (Hci.out.trans (Chg.of_below hb1))
        have Hbi1 := Lib.hid hbi1
        have Hbs1 := Lib.hid hbs1
        clear hb1 hbi1 hbs1 Hbi Hci c0 c1 c2
        rcases hsp with ⟨hx, hno⟩ | ⟨m, hx, hml, hm2, hmn⟩
        · rw [hx]
          have Hres := Lib.hid (show Frm.resync s.data.toList k = s.size from by
            have := Frm.resync_of_none s.data.toList k (fun j h1 h2 => by
              by_cases hj : j < i
              · exact Hi3.out j h1 hj
              · exact Frm.nextAt_bare _ (by
                  rw [List.getElem?_drop]
                  have := hno (j - i)
                  rw [List.getElem?_drop, show i + (j - i) = j by omega] at this
                  simpa using this))
            simpa using this)
          clear hx hno
          gi_wp2_with fail
          refine bodyPost_ret (results_none rfl _ _ _) rfl ?_
          exact ⟨⟨_, rfl⟩, .inr ⟨Hres.out, Hci1.out⟩⟩
        · rw [hx]
          have hmb : (m : Int) ≥ 0 := by omega
          have hmi : i + m < s.size := by
            have h : m < (s.data.toList.drop i).length := hml
            rw [List.length_drop] at h
            have : s.data.toList.length = s.size := by simp
            omega
          have hnone := Lib.hid (show ∀ j, k ≤ j → j < i + m → Frm.nextAt (s.data.toList.drop j) = none from fun j h1 h2 => by
            by_cases hj : j < i
            · exact Hi3.out j h1 hj
            · exact Frm.nextAt_bare _ (by
                rw [List.getElem?_drop]
                have := hmn (j - i) (by omega)
                rw [List.getElem?_drop, show i + (j - i) = j by omega] at this
                simpa using this))
          have hset := Hbi1.out.set 0 (.int .i64 ((i : Int) + m))
          have hset' : Blk (w1.setCell ⟨bAt, 0, none⟩ (.int .i64 ((i : Int) + m))) bAt tAt #[.int .i64 ((i + m : Nat) : Int)] := hset
          have f0 : (w1.setCell ⟨bAt, 0, none⟩ (.int .i64 ((i : Int) + m))).cell? ⟨bAt, 0, none⟩ = some (.int .i64 ((i : Int) + m)) := hset.cell 0
          have f1 := hset.free 0
          have hbs2 := Hbs1.out.chg ((Chg.refl (· = bAt) w1).setCell (p := ⟨bAt, 0, none⟩) (fun _ => rfl) (.int .i64 ((i : Int) + m))) hne
          have f2 : (w1.setCell ⟨bAt, 0, none⟩ (.int .i64 ((i : Int) + m))).cell? ⟨bS, 0, none⟩ = some (.string s) := hbs2.cell 0
          have Hset := Lib.hid hset'
          have Hbs2 := Lib.hid hbs2
          have Hci2 := Lib.hid (Hci1.out.setCell (p := ⟨bAt, 0, none⟩) (fun _ => rfl) (.int .i64 ((i : Int) + m)))
          clear hx hml hm2 hmn hset hset' hbs2 Hci1
          have hnx := fun W : World => (callsIn_wide (n := 8)).2 (next_in s (i + m) W hm (by omega))
          rw [Int.natCast_add] at hnx
          have Hnx := Lib.hid hnx
          clear hnx
          gi_wp2_with fail
          refine ⟨trivial, (Hnx.out _).mono ?_⟩
          rintro e w2 ⟨rfl, hb2⟩
          have hs2 := Hset.out.below hb2
          have g0 : w2.cell? ⟨bS, 0, none⟩ = some (.string s) := (Hbs2.out.below hb2).cell 0
          have g1 : w2.cell? ⟨bAt, 0, none⟩ = some (.int .i64 ((i : Int) + m)) := hs2.cell 0
          have g2 := hs2.free 0
          have Hs2 := Lib.hid hs2
          have Hci3 := Lib.hid (Hci2.out.trans (Chg.of_below hb2))
          clear hb2 hs2 f0 f1 f2 d0 d1 d2 Hset Hbs2 Hci2 Hnx Hbi1 Hbs1
          cases hnn : Frm.nextAt (s.data.toList.drop (i + m)) with
          | none =>
            have hv : nextR s.data.toList (i + m) = .tuple #[.string ⟨#[]⟩, .int .i64 0, .bool false] := by unfold nextR; rw [hnn]
            rw [hv]
            have Hnn := Lib.hid hnn
            have hst := Hs2.out.set 0 (.int .i64 ((i : Int) + m + 1))
            have Hst := Lib.hid hst
            have Hci4 := Lib.hid (Hci3.out.setCell (p := ⟨bAt, 0, none⟩) (fun _ => rfl) (.int .i64 ((i : Int) + m + 1)))
            have g3 : (w2.setCell ⟨bAt, 0, none⟩ (.int .i64 ((i : Int) + m + 1))).cell? ⟨bAt, 0, none⟩ = some (.int .i64 ((i : Int) + m + 1)) := hst.cell 0
            clear hv hnn hst
            gi_wp2_with fail
            refine ⟨fun _ h => (by cases h), ?_⟩
            gi_wp2_with fail
            go_roundw
            case rel => exact ⟨i + m + 1, by have := Hst.out; exact this, by omega, .inl (by omega), fun j h1 h2 => (by
              by_cases hj : j < i + m
              · exact hnone.out j h1 hj
              · obtain rfl : j = i + m := by omega
                exact Hnn.out), Hci4.out⟩
            case measure => rw [C1.out]; simp [intOf, g3]; omega
          | some p =>
            have hv : nextR s.data.toList (i + m) = .tuple #[.string ⟨p.toArray⟩, .int .i64 ((i + m + p.length + 8 : Nat) : Int), .bool true] := by unfold nextR; rw [hnn]
            rw [hv]
            have Hnn := Lib.hid hnn
            obtain ⟨fn, tmps, assign, body, hy, hR⟩ := hY (i + m) w2 Hci3.out
            rw [Int.natCast_add] at hy
            have HR := Lib.hid hR
            clear hv hnn hR
            have Hres := Lib.hid (Frm.resync_of_found s.data.toList k (i + m) (by omega) (by rw [len_list]; exact hmi) (by rw [Hnn.out]; rfl) hnone.out)
            gi_wp2_with fail
            refine HR.out.mono ?_
            rintro e w3 ⟨rfl, hleft⟩
            have Hleft := Lib.hid hleft
            clear hleft
            gi_wp2_with fail
            refine bodyPost_ret (results_none rfl _ _ _) rfl ?_
            exact ⟨⟨_, rfl⟩, .inl ⟨i + m, w2, Hres.out.symm, hmi, Hci3.out, Hleft.out⟩⟩
      · have Hres := Lib.hid (show Frm.resync s.data.toList k = s.size from by
          have := Frm.resync_of_none s.data.toList k (fun j h1 h2 => Hi3.out j h1 (by rw [len_list] at h2; omega))
          simpa using this)
        gi_wp2_with fail
        go_end0
        exact ⟨⟨_, rfl⟩, .inr ⟨Hres.out, Hci.out⟩⟩
end Go.Proofs.Ytkgleilcngnpfaa

/- 'row': payloads' frames, one behind the other, and where each begins. -/
import Derived.Test.YtkgleilcngnpfaaFramesRef2
import Derived.Test.YtkgleilcngnpfaaKnown
import Derived.Test.YtkgleilcngnpfaaInts
namespace Go.Proofs.Ytkgleilcngnpfaa
open Go.RowKit

/-- The payloads' frames, one behind the other. -/
def rowT (l : List ByteArray) : List UInt8 := (l.map fun p => Frm.frame p.data.toList).flatten
/-- Where the first ones begin. -/
def rowF (l : List ByteArray) (i : Nat) : List Int := (List.range i).map fun j => ((rowT (l.take j)).length : Int)
def rowOk (l : List ByteArray) : Prop := l.length ≤ 20 ∧ ∀ (j : Nat) (hj : j < l.length), l[j].size ≤ 300
theorem rowT_succ (l : List ByteArray) (k : Nat) (hk : k < l.length) : rowT (l.take (k + 1)) = rowT (l.take k) ++ Frm.frame l[k].data.toList := by
  unfold rowT
  rw [List.take_succ_eq_append_getElem hk, List.map_append, List.flatten_append]
  simp
theorem rowF_succ (l : List ByteArray) (k : Nat) : rowF l (k + 1) = rowF l k ++ [((rowT (l.take k)).length : Int)] := by
  unfold rowF
  rw [List.range_succ, List.map_append]; rfl
theorem rowF_length (l : List ByteArray) (k : Nat) : (rowF l k).length = k := by simp [rowF]
theorem rowT_le (l : List ByteArray) (k : Nat) (hk : k ≤ l.length) (h : ∀ (j : Nat) (hj : j < l.length), j < k → l[j].size ≤ 300) : (rowT (l.take k)).length ≤ 308 * k := by
  induction k with
  | zero => simp [rowT]
  | succ k ih =>
    have := ih (by omega) fun j hj h1 => h j hj (by omega)
    have h2 := h k (by omega) (by omega)
    rw [rowT_succ l k (by omega), List.length_append, Frm.frame_length, len_list]
    omega
theorem strOf_size (l : List UInt8) : (strOf l).size = l.length := by show l.toArray.size = _; simp
theorem strOf_append (a b : List UInt8) : strOf (a ++ b) = strOf a ++ strOf b := by
  refine bytes_ext ?_
  rw [data_append]; simp [strOf]
/-- A slice that reads as these strings, whatever an empty one's address is. -/
def RdE (w : World) (v : Value) (l : List ByteArray) : Prop :=
  ∃ x c, v = .slice x l.length c ∧ ∀ (j : Nat) (hj : j < l.length), ∃ b off, x = some ⟨b, off, none⟩ ∧ b < w.heap.size ∧ w.cell? ⟨b, off + j, none⟩ = some (.string l[j])
theorem RdE.below {w w' : World} {v : Value} {l : List ByteArray} (h : RdE w v l) (x : Below w.heap.size w w') : RdE w' v l := by
  obtain ⟨a, c, e, h⟩ := h
  refine ⟨a, c, e, fun j hj => ?_⟩
  obtain ⟨b, off, e2, hb, hc⟩ := h j hj
  exact ⟨b, off, e2, by have := x.size; omega, (x.cell (p := ⟨b, off + j, none⟩) hb).trans hc⟩
theorem RdS.each {w : World} {v : Value} {l : List ByteArray} (h : RdS w v l) : RdE w v l := by
  rcases h with ⟨c, rfl, rfl⟩ | ⟨b, off, c, rfl, hb, hc⟩
  · exact ⟨_, _, rfl, fun j hj => absurd hj (by simp)⟩
  · exact ⟨_, _, rfl, fun j hj => ⟨b, off, rfl, hb, hc j hj⟩⟩

set_option maxHeartbeats 1000000 in
theorem row_any (v : Value) (l : List ByteArray) (w : World) (h : RdE w v l) (hm : l.length ≤ 9223372036854775807) :
    Calls Try.prog 22 #[v] w fun e w' => (rowOk l → ∃ vf, e = .returned (.tuple #[.string (strOf (rowT l)), vf, .bool true]) ∧ OwnI w' w.heap.size vf (rowF l l.length)) ∧
      (¬ rowOk l → e = .returned (.tuple #[.string ⟨#[]⟩, .slice none 0 0, .bool false])) ∧ Below w.heap.size w w' := by
  obtain ⟨x, c, rfl, hc⟩ := id h
  have Hc := Lib.hid hc
  clear hc h
  by_cases hn : (l.length : Int) ≤ 20
  · go_enter Try.func22, Try.ntmps22
    go_wp2_with fail
    go_loopw [2, 3, 4, 5, 6, 7] (fun v2 v3 _ v5 _ _ wr => ∃ i : Nat, v5 = .int .i64 i ∧ i ≤ l.length ∧ v2 = .string (strOf (rowT (l.take i))) ∧ OwnI wr w.heap.size v3 (rowF l i) ∧
      (∀ (j : Nat) (hj : j < l.length), j < i → l[j].size ≤ 300) ∧ Below w.heap.size w wr) (fun _ _ _ v5 _ _ _ => l.length - (intOf v5).toNat)
    case atStart => exact ⟨0, rfl, Nat.zero_le _, rfl, OwnI.nil _ _, fun j _ h => absurd h (by omega), Below.refl _ _⟩
    case round =>
      obtain ⟨k, rfl, hk, rfl, hown, hsm, hbel⟩ := hrel
      have Hown := Lib.hid hown
      have hz := hbel.size
      have Hbel := Lib.hid hbel
      have Hsm := Lib.hid hsm
      have hTl := rowT_le l k hk hsm
      have hTz := strOf_size (rowT (l.take k))
      clear hown hsm hbel
      by_cases hlt : k < l.length
      · have HTs := Lib.hid (rowT_succ l k hlt)
        obtain ⟨b, off, rfl, hbl, hcell⟩ := Hc.out k hlt
        have c1 := (Hbel.out.cell (p := ⟨b, off + k, none⟩) hbl).trans hcell
        have Hcell := Lib.hid hcell
        clear hcell
        obtain ⟨T, hT⟩ : ∃ T, strOf (rowT (l.take k)) = T := ⟨_, rfl⟩
        have HT := Lib.hid hT
        obtain ⟨A, B, hAB⟩ : ∃ (A : ByteArray) (B : Int), (l[k].size ≤ 300 → A = strOf (Frm.frame l[k].data.toList) ∧ B = 0) ∧ ∀ W : World, Calls Try.prog 13 #[.string l[k]] W (fun e w' => e = .returned (.tuple #[.string A, .int .i64 B]) ∧ Below W.heap.size W w') := by
          by_cases hs : l[k].size ≤ 16384
          · exact ⟨_, _, fun _ => ⟨rfl, rfl⟩, fun W => frame_short l[k] W hs⟩
          · exact ⟨_, _, fun h => absurd h (by omega), fun W => frame_long l[k] W (by omega)⟩
        have HF := Lib.hid hAB.2
        have HA := Lib.hid hAB.1
        clear hAB
        rw [hT]
        rw [hT] at hTz
        by_cases hsz : (l[k].size : Int) ≤ 300
        · obtain ⟨hA, rfl⟩ := HA.out (by omega)
          have hAz : A.size = l[k].size + 8 := by rw [hA, strOf_size, Frm.frame_length, len_list]
          have Hnew := Lib.hid (show strOf (rowT (l.take (k + 1))) = T ++ A by rw [HTs.out, strOf_append, hT, hA])
          have Hsm2 : ∀ (j : Nat) (hj : j < l.length), j < k + 1 → l[j].size ≤ 300 := fun j hj h1 => by
            by_cases h2 : j < k
            · exact Hsm.out j hj h2
            · have e : j = k := by omega
              subst e
              omega
          have Hsm3 := Lib.hid Hsm2
          clear Hsm2
          clear hA HA hT
          generalize l[k] = P at *
          go_wp2_with fail
          refine (HF.out _).mono ?_
          rintro e w1 ⟨rfl, hb1⟩
          have Hown1 := Lib.hid (Hown.out.kept hb1)
          have Hbel1 := Lib.hid (Hbel.out.trans (hb1.mono hz))
          have hz1 := Hbel1.out.size
          have c2 := (Hbel1.out.cell (p := ⟨b, off + k, none⟩) hbl).trans Hcell.out
          clear hb1 Hown Hbel hz c1
          go_wp2_with (refine wpList_append_int rfl (.tmp 35) (.tmp 38) rfl w.heap.size _ _ rfl (Hown1.out.alloc _) w1.heap.size rfl ((rowT (List.take k l)).length : Int) ((Blk.alloc_new w1 _ _).cell 0) (by rw [rowF_length]; omega) (by simp; omega) ?_; intro v2 w2 hown hbel; have Hown2 := Lib.hid hown; have Hbel2 := Lib.hid ((Hbel1.out.alloc hz1 _).trans hbel); clear hown hbel Hown1 Hbel1)
          go_roundw
          case rel => exact ⟨k + 1, by go_num, by omega, by rw [Hnew.out], by rw [rowF_succ]; exact Hown2.out, Hsm3.out, Hbel2.out⟩
          case measure => simp [intOf]; omega
        · have hsz2 : (300 : Int) < l[k].size := by omega
          have Hno := Lib.hid (show ¬ rowOk l from fun h => by have := h.2 k hlt; omega)
          clear hT HA
          generalize l[k] = P at *
          go_wp2_with fail
          refine (HF.out _).mono ?_
          rintro e w1 ⟨rfl, hb1⟩
          have Hbel1 := Lib.hid (Hbel.out.trans (hb1.mono hz))
          have c2 := (Hbel1.out.cell (p := ⟨b, off + k, none⟩) hbl).trans Hcell.out
          clear hb1 Hown Hbel hz c1
          go_wp2_with fail
          go_ret3
          exact ⟨fun h => absurd h Hno.out, fun _ => rfl, Hbel1.out⟩
      · obtain rfl : k = l.length := by omega
        have Hok := Lib.hid (show rowOk l from ⟨by omega, fun j hj => Hsm.out j hj hj⟩)
        rw [List.take_length]
        go_wp2_with fail
        go_ret3
        exact ⟨fun _ => ⟨_, rfl, Hown.out⟩, fun h => absurd Hok.out h, Hbel.out⟩
  · have c2 : (20 : Int) < l.length := by omega
    go_enter Try.func22, Try.ntmps22
    go_wp2_with fail
    go_ret3
    exact ⟨fun h => absurd h.1 (by omega), fun _ => rfl, Below.refl _ _⟩
end Go.Proofs.Ytkgleilcngnpfaa

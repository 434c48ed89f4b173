/- The document's own way to the next frame, and to all payloads: the walks. -/
import Derived.Test.YtkgleilcngnpfaaFramesRef
namespace Go.Proofs.Ytkgleilcngnpfaa
open Go.RowKit

set_option maxHeartbeats 1000000 in
theorem ref_resync_any (s : ByteArray) (k0 : Int) (w : World) (hm : s.size ≤ 140737488355328) (hb : -9223372036854775808 ≤ k0 ∧ k0 ≤ 9223372036854775807) :
    Calls Try.prog 18 #[.string s, .int .i64 k0] w fun e w' => e = .returned (.int .i64 (Frm.resync s.data.toList k0.toNat)) ∧ Below w.heap.size w w' := by
  have hsl : s.data.toList.length = s.size := by simp
  have Hsl := Lib.hid hsl
  clear hsl
  obtain ⟨k, hk⟩ : ∃ k : Nat, k = k0.toNat := ⟨_, rfl⟩
  rw [← hk]
  have hkb : k ≤ 9223372036854775807 := by omega
  have HK := Lib.hid hk
  clear hk
  have hmain : ∀ (i : Nat), k ≤ i → (i ≤ s.size ∨ i = k) → (∀ j, k ≤ j → j < i → Frm.nextAt (s.data.toList.drop j) = none) → ¬ i < s.size → Frm.resync s.data.toList k = s.size := fun i h1 h2 h3 h4 => by
    have := Frm.resync_of_none s.data.toList k (fun j a b => h3 j a (by rw [Hsl.out] at b; omega))
    rw [this, Hsl.out]
  have Hmain := Lib.hid hmain
  clear hmain
  by_cases h0 : k0 < 0
  · obtain rfl : k = 0 := by have := HK.out; omega
    clear HK
    go_enter Try.func18, Try.ntmps18
    go_wp2_with fail
    go_loopw [5, 6, 7, 8] (fun v5 v6 v7 v8 wr => ∃ i : Nat, v5 = .int .i64 i ∧ 0 ≤ i ∧ (i ≤ s.size ∨ i = 0) ∧ (∀ j, 0 ≤ j → j < i → Frm.nextAt (s.data.toList.drop j) = none) ∧ Below w.heap.size w wr) (fun v5 _ _ _ _ => s.size - (intOf v5).toNat)
    case atStart => exact ⟨0, rfl, Nat.le_refl _, .inr rfl, fun j h1 h2 => absurd h2 (by omega), Below.refl _ _⟩
    case round =>
      obtain ⟨i, rfl, hi1, hi2, hi3, hbel⟩ := hrel
      have Hi3 := Lib.hid hi3
      have Hbel := Lib.hid hbel
      have hib : (i : Int) ≤ 9223372036854775807 := by omega
      clear hi3 hbel
      by_cases hlt : i < s.size
      · go_wp2_with fail
        refine (ref_next_in s i _ hm (by omega)).mono ?_
        rintro e w1 ⟨rfl, hb1⟩
        have Hbel1 := Lib.hid (Hbel.out.trans (hb1.mono Hbel.out.size))
        clear hb1 Hbel
        cases hn : Frm.nextAt (s.data.toList.drop i) with
        | none =>
          have hv : nextR s.data.toList i = .tuple #[.string ⟨#[]⟩, .int .i64 0, .bool false] := by unfold nextR; rw [hn]
          rw [hv]
          have Hn := Lib.hid hn
          clear hv hn
          go_wp2_with fail
          go_roundw
          case rel => exact ⟨i + 1, by go_num, by omega, .inl (by omega), fun j h1 h2 => (by
            by_cases hj : j < i
            · exact Hi3.out j h1 hj
            · obtain rfl : j = i := by omega
              exact Hn.out), Hbel1.out⟩
          case measure => simp [intOf]; omega
        | some p =>
          have hv : nextR s.data.toList i = .tuple #[.string ⟨p.toArray⟩, .int .i64 ((i + p.length + 8 : Nat) : Int), .bool true] := by unfold nextR; rw [hn]
          rw [hv]
          have Hres := Lib.hid (Frm.resync_of_found s.data.toList 0 i (by omega) (by rw [Hsl.out]; exact hlt) (by rw [hn]; rfl) Hi3.out)
          clear hv hn
          go_wp2_with fail
          go_ret
          exact ⟨by rw [Hres.out]; rfl, Hbel1.out⟩
      · have Hres := Lib.hid (Hmain.out i (by omega) hi2 Hi3.out hlt)
        go_wp2_with fail
        go_ret
        exact ⟨by rw [Hres.out]; rfl, Hbel.out⟩
  · obtain rfl : k0 = (k : Int) := by have := HK.out; omega
    clear HK
    go_enter Try.func18, Try.ntmps18
    go_wp2_with fail
    go_loopw [5, 6, 7, 8] (fun v5 v6 v7 v8 wr => ∃ i : Nat, v5 = .int .i64 i ∧ k ≤ i ∧ (i ≤ s.size ∨ i = k) ∧ (∀ j, k ≤ j → j < i → Frm.nextAt (s.data.toList.drop j) = none) ∧ Below w.heap.size w wr) (fun v5 _ _ _ _ => s.size - (intOf v5).toNat)
    case atStart => exact ⟨k, rfl, Nat.le_refl _, .inr rfl, fun j h1 h2 => absurd h2 (by omega), Below.refl _ _⟩
    case round =>
      obtain ⟨i, rfl, hi1, hi2, hi3, hbel⟩ := hrel
      have Hi3 := Lib.hid hi3
      have Hbel := Lib.hid hbel
      have hib : (i : Int) ≤ 9223372036854775807 := by omega
      clear hi3 hbel
      by_cases hlt : i < s.size
      · go_wp2_with fail
        refine (ref_next_in s i _ hm (by omega)).mono ?_
        rintro e w1 ⟨rfl, hb1⟩
        have Hbel1 := Lib.hid (Hbel.out.trans (hb1.mono Hbel.out.size))
        clear hb1 Hbel
        cases hn : Frm.nextAt (s.data.toList.drop i) with
        | none =>
          have hv : nextR s.data.toList i = .tuple #[.string ⟨#[]⟩, .int .i64 0, .bool false] := by unfold nextR; rw [hn]
          rw [hv]
          have Hn := Lib.hid hn
          clear hv hn
          go_wp2_with fail
          go_roundw
          case rel => exact ⟨i + 1, by go_num, by omega, .inl (by omega), fun j h1 h2 => (by
            by_cases hj : j < i
            · exact Hi3.out j h1 hj
            · obtain rfl : j = i := by omega
              exact Hn.out), Hbel1.out⟩
          case measure => simp [intOf]; omega
        | some p =>
          have hv : nextR s.data.toList i = .tuple #[.string ⟨p.toArray⟩, .int .i64 ((i + p.length + 8 : Nat) : Int), .bool true] := by unfold nextR; rw [hn]
          rw [hv]
          have Hres := Lib.hid (Frm.resync_of_found s.data.toList k i (by omega) (by rw [Hsl.out]; exact hlt) (by rw [hn]; rfl) Hi3.out)
          clear hv hn
          go_wp2_with fail
          go_ret
          exact ⟨by rw [Hres.out]; rfl, Hbel1.out⟩
      · have Hres := Lib.hid (Hmain.out i (by omega) hi2 Hi3.out hlt)
        go_wp2_with fail
        go_ret
        exact ⟨by rw [Hres.out]; rfl, Hbel.out⟩

set_option maxHeartbeats 1000000 in
theorem ref_whole04_any (s : ByteArray) (w : World) (hm : s.size ≤ 8796093022207) :
    Calls Try.prog 20 #[.string s] w fun e w' => (∃ v, e = .returned (.tuple #[v, .int .i64 (Frm.whole s.size s.data.toList).2]) ∧ OwnS w' w.heap.size v ((Frm.whole s.size s.data.toList).1.map strOf)) ∧ Below w.heap.size w w' := by
  have hsl : s.data.toList.length = s.size := by simp
  rw [← hsl]
  have Hsl := Lib.hid hsl
  clear hsl
  go_enter Try.func20, Try.ntmps20
  go_wp2_with fail
  go_loopw [4, 5] (fun v i wr => ∃ (k : Nat) (acc : List (List UInt8)), k ≤ s.size ∧ i = .int .i64 k ∧ acc.length ≤ k ∧ OwnS wr w.heap.size v (acc.map strOf) ∧ Below w.heap.size w wr ∧
    Frm.whole s.data.toList.length s.data.toList = (acc ++ (Frm.whole s.data.toList.length (s.data.toList.drop k)).1, k + (Frm.whole s.data.toList.length (s.data.toList.drop k)).2)) (fun _ i _ => s.size - (intOf i).toNat)
  case atStart => exact ⟨0, [], Nat.zero_le _, rfl, Nat.le_refl _, OwnS.nil _ _, Below.refl _ _, by simp⟩
  case round =>
    obtain ⟨k, acc, hk, rfl, hacc, hown, hbel, hinv⟩ := hrel
    have Hown := Lib.hid hown
    have Hbel := Lib.hid hbel
    have hz := hbel.size
    clear hown hbel
    by_cases hlt : k < s.size
    · go_wp2_with fail
      refine (ref_next_in s k _ (by omega) hk).mono ?_
      rintro e w1 ⟨rfl, hb1⟩
      have Hown1 := Lib.hid (Hown.out.kept hb1)
      have Hbel1 := Lib.hid (Hbel.out.trans (hb1.mono hz))
      have hz1 := Hbel1.out.size
      clear hb1 Hown Hbel hz
      cases hn : Frm.nextAt (s.data.toList.drop k) with
      | none =>
        have hv : nextR s.data.toList k = .tuple #[.string ⟨#[]⟩, .int .i64 0, .bool false] := by unfold nextR; rw [hn]
        rw [hv]
        have Hst := Lib.hid (whole_stop _ _ _ hn hinv)
        clear hv hn hinv
        go_wp2_with fail
        go_ret2
        exact ⟨⟨_, by rw [Hst.out]; rfl, by rw [Hst.out]; exact Hown1.out⟩, Hbel1.out⟩
      | some p =>
        have hv : nextR s.data.toList k = .tuple #[.string (strOf p), .int .i64 ((k + p.length + 8 : Nat) : Int), .bool true] := by unfold nextR; rw [hn]; rfl
        rw [hv]
        obtain ⟨hs1, hs2⟩ := whole_step _ _ _ _ hn hinv
        have hkb : k + p.length + 8 ≤ s.size := by rw [Hsl.out] at hs2; exact hs2
        have Hs1 := Lib.hid hs1
        clear hv hn hinv hs1 hs2
        go_wp2_with (refine wpList_append_str rfl (.tmp 22) (.tmp 24) rfl w.heap.size _ _ rfl (Hown1.out.alloc _) w1.heap.size rfl (strOf p) ((Blk.alloc_new w1 _ _).cell 0) (by rw [List.length_map]; omega) (by simp; omega) ?_; intro v2 w2 hown hbel; have Hown2 := Lib.hid hown; have Hbel2 := Lib.hid ((Hbel1.out.alloc hz1 _).trans hbel); clear hown hbel Hown1 Hbel1)
        go_roundw
        case rel => exact ⟨k + p.length + 8, acc ++ [p], hkb, by go_num, by rw [List.length_append]; simp; omega, by rw [List.map_append]; exact Hown2.out, Hbel2.out, Hs1.out⟩
        case measure => simp [intOf]; omega
    · have Hst := Lib.hid (whole_stop s.data.toList k acc (Frm.nextAt_short _ (by rw [List.length_drop, Hsl.out]; omega)) hinv)
      clear hinv
      go_wp2_with fail
      go_ret2
      exact ⟨⟨_, by rw [Hst.out]; rfl, by rw [Hst.out]; exact Hown.out⟩, Hbel.out⟩
end Go.Proofs.Ytkgleilcngnpfaa

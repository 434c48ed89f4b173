/- 'DiskSwap', walked. -/
import Derived.Test.YtnngdflamkdgaaaDiskDoes2
import Derived.Test.YtnngdflamkdgaaaSwapPlain
import Derived.Test.YtnngdflamkdgaaaPair
namespace Go.Proofs.Ytnngdflamkdgaaa
open Go.RowKit Go.Maps
open Dsk

section
variable {w0 w : World} {X : Nat → Prop} {v : Value} {d d' : Dk} {r : Int}
theorem Live.appendP (h : Live w0 X w v d) (name s : ByteArray) {n : Str} (hn : name.data.toList = n) (he : d.append n s.data.toList = (r, d')) (h1 : name.size ≤ 1000) (h2 : s.size ≤ maxLen) :
    Calls Try.prog 11 #[v, .string name, .string s] w fun e w' => e = .returned (.int .i64 r) ∧ Live w0 X w' v d' := by
  subst hn
  refine (h.append name s (lit_le h1) h2).mono fun _ _ x => ?_
  rw [he] at x
  exact ⟨x.1, x.2.1⟩
theorem Live.syncP (h : Live w0 X w v d) (name : ByteArray) {n : Str} (hn : name.data.toList = n) (he : d.sync n = (r, d')) (h1 : name.size ≤ 1000) :
    Calls Try.prog 12 #[v, .string name] w fun e w' => e = .returned (.int .i64 r) ∧ Live w0 X w' v d' := by
  subst hn
  refine (h.sync name (lit_le h1)).mono fun _ _ x => ?_
  rw [he] at x
  exact ⟨x.1, x.2.1⟩
theorem Live.renameP (h : Live w0 X w v d) (name s : ByteArray) {n t : Str} (hn : name.data.toList = n) (ht : s.data.toList = t) (he : d.rename n t = (r, d')) (h1 : name.size ≤ 1000) (h2 : s.size ≤ 1000) :
    Calls Try.prog 14 #[v, .string name, .string s] w fun e w' => e = .returned (.int .i64 r) ∧ Live w0 X w' v d' := by
  subst hn ht
  refine (h.rename name s (lit_le h1) (lit_le h2)).mono fun _ _ x => ?_
  rw [he] at x
  exact ⟨x.1, x.2.1⟩
theorem Live.startP (h : Live w0 X w v d) (he : d.start = (r, d')) :
    Calls Try.prog 15 #[v] w fun e w' => e = .returned (.int .i64 r) ∧ Live w0 X w' v d' := by
  refine h.start.mono fun _ _ x => ?_
  rw [he] at x
  exact ⟨x.1, x.2.1⟩
theorem Live.readP (h : Live w0 X w v d) (name x : ByteArray) {n : Str} (hn : name.data.toList = n) (he : d.read n = (x.data.toList, r)) (h1 : name.size ≤ 1000) :
    Calls Try.prog 16 #[v, .string name] w fun e w' => e = .returned (.tuple #[.string x, .int .i64 r]) ∧ Below w.heap.size w w' := by
  subst hn
  refine (h.read name (lit_le h1)).mono fun _ _ y => ⟨?_, y.2⟩
  rw [y.1, he]
theorem Live.failP (h : Live w0 X w v d) (n : Int) (hn : n ≤ 9223372036854775807) (kv0 : Value) (keep : List Int) {S : Nat → Prop} (hk : KeepR w S kv0 keep) (hkl : keep.length ≤ 1099511627776) (he : d.failAt n keep = (r, d')) :
    Calls Try.prog 13 #[v, .int .i64 n, kv0] w fun e w' => e = .returned (.int .i64 r) ∧ Live w0 X w' v d' := by
  refine (h.fail n hn kv0 keep hk hkl).mono fun _ _ x => ?_
  rw [he] at x
  exact ⟨x.1, x.2.1⟩
end
theorem list_len (s : ByteArray) : s.data.toList.length = s.size := by simp
set_option maxRecDepth 100000 in
set_option maxHeartbeats 4000000 in
theorem diskSwap_any (a b : ByteArray) (n : Int) (kv : Value) (keep : List Int) (w : World) (ha : a.size ≤ maxLen) (hb : b.size ≤ maxLen) (hn : 0 ≤ n ∧ n ≤ 255) (hk : KeepR w (fun k => w.heap.size ≤ k) kv keep) (hkl : keep.length ≤ maxLen) :
    Calls Try.prog 3 #[.agg #[.string a, .string b], .int .u8 n, kv] w fun e w' => e = .returned (.bool true) ∧ Below w.heap.size w w' := by
  have hkl2 : keep.length ≤ 9223372036854775807 := by unfold maxLen at hkl; omega
  have ha2 : a.size ≤ 9223372036854775807 := by unfold maxLen at ha; omega
  have hb2 : b.size ≤ 9223372036854775807 := by unfold maxLen at hb; omega
  obtain ⟨kx, kc, hkv, _, _⟩ := id hk
  subst hkv
  clear hkl
  by_cases h1 : a.size ≤ 1000
  case neg =>
    have g1 : (1000 : Int) < a.size := by omega
    clear hk ha hb h1
    go_enter Try.func3, Try.ntmps3
    go_wp2_with fail
    go_ret
    exact ⟨rfl, (Below.refl _ _).alloc (Nat.le_refl _) _⟩
  by_cases h2 : b.size ≤ 1000
  case neg =>
    have g1 : ¬ (1000 : Int) < a.size := by omega
    have g2 : (1000 : Int) < b.size := by omega
    clear hk ha hb h1 h2
    go_enter Try.func3, Try.ntmps3
    go_wp2_with fail
    go_ret
    exact ⟨rfl, (Below.refl _ _).alloc (Nat.le_refl _) _⟩
  by_cases h3 : keep.length ≤ 100
  case neg =>
    have g1 : ¬ (1000 : Int) < a.size := by omega
    have g2 : ¬ (1000 : Int) < b.size := by omega
    have g3 : (100 : Int) < keep.length := by omega
    clear hk ha hb h1 h2 h3
    go_enter Try.func3, Try.ntmps3
    go_wp2_with fail
    go_ret
    exact ⟨rfl, (Below.refl _ _).alloc (Nat.le_refl _) _⟩
  have g1 : ¬ (1000 : Int) < a.size := by omega
  have g2 : ¬ (1000 : Int) < b.size := by omega
  have g3 : ¬ (100 : Int) < keep.length := by omega
  obtain ⟨w0, hw0⟩ : ∃ w0, w0 = w.alloc (.cells #[.string a, .string b] 22 (0, 0)) := ⟨_, rfl⟩
  have hb0 : Below w.heap.size w w0 := by rw [hw0]; exact (Below.refl _ _).alloc (Nat.le_refl _) _
  have hz0 : w0.heap.size = w.heap.size + 1 := by rw [hw0]; simp
  have hblk : Blk w0 w.heap.size 22 #[.string a, .string b] := by rw [hw0]; exact Blk.alloc_new w _ _
  have Hblk := Lib.hid hblk
  have HW := Lib.hid hw0
  have Hb0 := Lib.hid hb0
  have Hk := Lib.hid hk
  have H1 := Lib.hid h1
  have H2 := Lib.hid h2
  have H3 := Lib.hid h3
  have Ha := Lib.hid ha
  have Hb := Lib.hid hb
  have haL : a.data.toList.length ≤ 1000 := by rw [list_len]; exact h1
  have hbL : b.data.toList.length ≤ 1000 := by rw [list_len]; exact h2
  have S1 := Lib.hid (sw1 a.data.toList haL)
  have S2 := Lib.hid (sw2 a.data.toList)
  obtain ⟨m, hm⟩ : ∃ m : Int, n % 5 = m := ⟨_, rfl⟩
  have hm0 : 0 ≤ m ∧ m < 5 := by omega
  have S3 := Lib.hid (sw3 a.data.toList keep m hm0.1)
  have S4 := Lib.hid (sw4 a.data.toList b.data.toList keep haL hbL)
  have S5 := Lib.hid (sw5 a.data.toList b.data.toList keep)
  have S6 := Lib.hid (sw6 a.data.toList b.data.toList keep)
  have S7 := Lib.hid (sw7 a.data.toList keep)
  have S8 := Lib.hid (sw8 a.data.toList keep)
  have S9 := Lib.hid (sw9 b.data.toList keep)
  obtain ⟨hm1, hm2⟩ := hm0
  obtain ⟨hn1, hn2⟩ := hn
  have hwm : IntKind.i64.wrap m = m := IntWalk.i64_in _ ⟨by omega, by omega⟩
  clear hw0 hb0 hk h1 h2 h3 ha hb hblk haL hbL hz0
  go_enter Try.func3, Try.ntmps3
  go_wp2_with fail
  rw [← HW.out]
  refine (live_new 3000 w0 (by omega) (by omega)).mono ?_
  rintro e w1 ⟨v, rfl, hl⟩
  obtain ⟨bd, rfl⟩ := hl.ptr
  have hbl := Hblk.out.chg (Chg.of_below hl.below (S := fun _ => False)) id
  have c0 := hbl.cell 0
  simp at c0
  have HL := Lib.hid hl
  clear hl hbl
  go_wp2_with fail
  refine (HL.out.appendP ⟨#[102, 105, 108, 101]⟩ a rfl S1.out (by decide) Ha.out).mono ?_
  rintro e w2 ⟨rfl, hl⟩
  have HL2 := Lib.hid hl
  clear hl c0 HL
  go_wp2_with fail
  refine (HL2.out.syncP ⟨#[102, 105, 108, 101]⟩ rfl S2.out (by decide)).mono ?_
  rintro e w3 ⟨rfl, hl⟩
  have HL3 := Lib.hid hl
  clear hl HL2
  go_wp2_with fail
  have hk4 := Hk.out.chg ((Chg.of_below Hb0.out).trans (Chg.of_below HL3.out.below) : Chg (fun _ => False) w w3) (fun _ e => e.elim)
  have hz4 : w.heap.size ≤ w3.heap.size := Nat.le_trans Hb0.out.size HL3.out.size
  refine (HL3.out.failP m (by omega) _ keep hk4 (by omega) S3.out).mono ?_
  rintro e w4 ⟨rfl, hl⟩
  have hbl := Hblk.out.chg (Chg.of_below hl.below (S := fun _ => False)) id
  have c1 := hbl.cell 1
  simp at c1
  have HL4 := Lib.hid hl
  clear hl hk4 HL3 S1 S2 S3 hbl
  have hcs : m = 0 ∨ m = 1 ∨ m = 2 ∨ m = 3 ∨ m = 4 := by omega
  rcases hcs with rfl | rfl | rfl | rfl | rfl
  · go_wp2_with fail
    refine (HL4.out.appendP ⟨#[100, 114, 97, 102, 116]⟩ b rfl ((S4.out _).trans (if_pos (by omega))) (by decide) Hb.out).mono ?_
    rintro e w5 ⟨rfl, hl⟩
    have HL5 := Lib.hid hl
    have hbl := Hblk.out.chg (Chg.of_below hl.below (S := fun _ => False)) id
    have e0 := hbl.cell 0
    simp at e0
    clear hl hbl c1 HL4
    go_wp2_with fail
    refine (HL5.out.startP (S7.out _)).mono ?_
    rintro e w8 ⟨rfl, hl⟩
    have HL8 := Lib.hid hl
    have hbl := Hblk.out.chg (Chg.of_below hl.below (S := fun _ => False)) id
    clear e0
    have e0 := hbl.cell 0
    simp at e0
    clear hl hbl HL5
    go_wp2_with fail
    refine (HL8.out.readP ⟨#[102, 105, 108, 101]⟩ a rfl (S8.out _) (by decide)).mono ?_
    rintro e w9 ⟨rfl, hb9⟩
    have HL9 := Lib.hid (HL8.out.keep hb9)
    clear hb9 e0
    go_wp2_with fail
    refine (does_any _).mono ?_
    rintro e w10 ⟨rfl, hb10⟩
    have HB := Lib.hid ((Hb0.out.trans (HL9.out.below.mono Hb0.out.size)).trans (hb10.mono (Nat.le_trans Hb0.out.size HL9.out.size)))
    clear hb10
    go_wp2_with fail
    go_ret
    exact ⟨rfl, HB.out⟩
  · go_wp2_with fail
    refine (HL4.out.appendP ⟨#[100, 114, 97, 102, 116]⟩ b rfl ((S4.out _).trans (if_neg (by omega))) (by decide) Hb.out).mono ?_
    rintro e w5 ⟨rfl, hl⟩
    have HL5 := Lib.hid hl
    have hbl := Hblk.out.chg (Chg.of_below hl.below (S := fun _ => False)) id
    have e0 := hbl.cell 0
    simp at e0
    clear hl hbl c1 HL4
    go_wp2_with fail
    refine (HL5.out.syncP ⟨#[100, 114, 97, 102, 116]⟩ rfl ((S5.out _).trans (if_pos (by omega))) (by decide)).mono ?_
    rintro e w6 ⟨rfl, hl⟩
    have HL6 := Lib.hid hl
    have hbl := Hblk.out.chg (Chg.of_below hl.below (S := fun _ => False)) id
    clear e0
    have e0 := hbl.cell 0
    simp at e0
    clear hl hbl HL5
    go_wp2_with fail
    refine (HL6.out.startP (S7.out _)).mono ?_
    rintro e w8 ⟨rfl, hl⟩
    have HL8 := Lib.hid hl
    have hbl := Hblk.out.chg (Chg.of_below hl.below (S := fun _ => False)) id
    clear e0
    have e0 := hbl.cell 0
    simp at e0
    clear hl hbl HL6
    go_wp2_with fail
    refine (HL8.out.readP ⟨#[102, 105, 108, 101]⟩ a rfl (S8.out _) (by decide)).mono ?_
    rintro e w9 ⟨rfl, hb9⟩
    have HL9 := Lib.hid (HL8.out.keep hb9)
    clear hb9 e0
    go_wp2_with fail
    refine (does_any _).mono ?_
    rintro e w10 ⟨rfl, hb10⟩
    have HB := Lib.hid ((Hb0.out.trans (HL9.out.below.mono Hb0.out.size)).trans (hb10.mono (Nat.le_trans Hb0.out.size HL9.out.size)))
    clear hb10
    go_wp2_with fail
    go_ret
    exact ⟨rfl, HB.out⟩
  · go_wp2_with fail
    refine (HL4.out.appendP ⟨#[100, 114, 97, 102, 116]⟩ b rfl ((S4.out _).trans (if_neg (by omega))) (by decide) Hb.out).mono ?_
    rintro e w5 ⟨rfl, hl⟩
    have HL5 := Lib.hid hl
    have hbl := Hblk.out.chg (Chg.of_below hl.below (S := fun _ => False)) id
    have e0 := hbl.cell 0
    simp at e0
    clear hl hbl c1 HL4
    go_wp2_with fail
    refine (HL5.out.syncP ⟨#[100, 114, 97, 102, 116]⟩ rfl ((S5.out _).trans (if_neg (by omega))) (by decide)).mono ?_
    rintro e w6 ⟨rfl, hl⟩
    have HL6 := Lib.hid hl
    have hbl := Hblk.out.chg (Chg.of_below hl.below (S := fun _ => False)) id
    clear e0
    have e0 := hbl.cell 0
    simp at e0
    clear hl hbl HL5
    go_wp2_with fail
    refine (HL6.out.renameP ⟨#[100, 114, 97, 102, 116]⟩ ⟨#[102, 105, 108, 101]⟩ rfl rfl ((S6.out _).trans (if_pos (by omega))) (by decide) (by decide)).mono ?_
    rintro e w7 ⟨rfl, hl⟩
    have HL7 := Lib.hid hl
    have hbl := Hblk.out.chg (Chg.of_below hl.below (S := fun _ => False)) id
    clear e0
    have e0 := hbl.cell 0
    have e1 := hbl.cell 1
    simp at e0 e1
    clear hl hbl HL6
    go_wp2_with fail
    refine (HL7.out.startP (S7.out _)).mono ?_
    rintro e w8 ⟨rfl, hl⟩
    have HL8 := Lib.hid hl
    have hbl := Hblk.out.chg (Chg.of_below hl.below (S := fun _ => False)) id
    clear e0
    have e0 := hbl.cell 0
    simp at e0
    clear hl hbl HL7
    go_wp2_with fail
    refine (HL8.out.readP ⟨#[102, 105, 108, 101]⟩ a rfl (S8.out _) (by decide)).mono ?_
    rintro e w9 ⟨rfl, hb9⟩
    have HL9 := Lib.hid (HL8.out.keep hb9)
    clear hb9 e0
    go_wp2_with fail
    refine (does_any _).mono ?_
    rintro e w10 ⟨rfl, hb10⟩
    have HB := Lib.hid ((Hb0.out.trans (HL9.out.below.mono Hb0.out.size)).trans (hb10.mono (Nat.le_trans Hb0.out.size HL9.out.size)))
    clear hb10
    go_wp2_with fail
    go_ret
    exact ⟨rfl, HB.out⟩
  · go_wp2_with fail
    refine (HL4.out.appendP ⟨#[100, 114, 97, 102, 116]⟩ b rfl ((S4.out _).trans (if_neg (by omega))) (by decide) Hb.out).mono ?_
    rintro e w5 ⟨rfl, hl⟩
    have HL5 := Lib.hid hl
    have hbl := Hblk.out.chg (Chg.of_below hl.below (S := fun _ => False)) id
    have e0 := hbl.cell 0
    simp at e0
    clear hl hbl c1 HL4
    go_wp2_with fail
    refine (HL5.out.syncP ⟨#[100, 114, 97, 102, 116]⟩ rfl ((S5.out _).trans (if_neg (by omega))) (by decide)).mono ?_
    rintro e w6 ⟨rfl, hl⟩
    have HL6 := Lib.hid hl
    have hbl := Hblk.out.chg (Chg.of_below hl.below (S := fun _ => False)) id
    clear e0
    have e0 := hbl.cell 0
    simp at e0
    clear hl hbl HL5
    go_wp2_with fail
    refine (HL6.out.renameP ⟨#[100, 114, 97, 102, 116]⟩ ⟨#[102, 105, 108, 101]⟩ rfl rfl ((S6.out _).trans (if_neg (by omega))) (by decide) (by decide)).mono ?_
    rintro e w7 ⟨rfl, hl⟩
    have HL7 := Lib.hid hl
    have hbl := Hblk.out.chg (Chg.of_below hl.below (S := fun _ => False)) id
    clear e0
    have e0 := hbl.cell 0
    have e1 := hbl.cell 1
    simp at e0 e1
    clear hl hbl HL6
    go_wp2_with fail
    refine (HL7.out.readP ⟨#[102, 105, 108, 101]⟩ b rfl (S9.out _) (by decide)).mono ?_
    rintro e w9 ⟨rfl, hb9⟩
    have HL9 := Lib.hid (HL7.out.keep hb9)
    clear hb9 e0
    go_wp2_with fail
    refine (does_any _).mono ?_
    rintro e w10 ⟨rfl, hb10⟩
    have HB := Lib.hid ((Hb0.out.trans (HL9.out.below.mono Hb0.out.size)).trans (hb10.mono (Nat.le_trans Hb0.out.size HL9.out.size)))
    clear hb10
    go_wp2_with fail
    go_ret
    exact ⟨rfl, HB.out⟩
  · go_wp2_with fail
    refine (HL4.out.appendP ⟨#[100, 114, 97, 102, 116]⟩ b rfl ((S4.out _).trans (if_neg (by omega))) (by decide) Hb.out).mono ?_
    rintro e w5 ⟨rfl, hl⟩
    have HL5 := Lib.hid hl
    have hbl := Hblk.out.chg (Chg.of_below hl.below (S := fun _ => False)) id
    have e0 := hbl.cell 0
    simp at e0
    clear hl hbl c1 HL4
    go_wp2_with fail
    refine (HL5.out.syncP ⟨#[100, 114, 97, 102, 116]⟩ rfl ((S5.out _).trans (if_neg (by omega))) (by decide)).mono ?_
    rintro e w6 ⟨rfl, hl⟩
    have HL6 := Lib.hid hl
    have hbl := Hblk.out.chg (Chg.of_below hl.below (S := fun _ => False)) id
    clear e0
    have e0 := hbl.cell 0
    simp at e0
    clear hl hbl HL5
    go_wp2_with fail
    refine (HL6.out.renameP ⟨#[100, 114, 97, 102, 116]⟩ ⟨#[102, 105, 108, 101]⟩ rfl rfl ((S6.out _).trans (if_neg (by omega))) (by decide) (by decide)).mono ?_
    rintro e w7 ⟨rfl, hl⟩
    have HL7 := Lib.hid hl
    have hbl := Hblk.out.chg (Chg.of_below hl.below (S := fun _ => False)) id
    clear e0
    have e0 := hbl.cell 0
    have e1 := hbl.cell 1
    simp at e0 e1
    clear hl hbl HL6
    go_wp2_with fail
    refine (HL7.out.readP ⟨#[102, 105, 108, 101]⟩ b rfl (S9.out _) (by decide)).mono ?_
    rintro e w9 ⟨rfl, hb9⟩
    have HL9 := Lib.hid (HL7.out.keep hb9)
    clear hb9 e0
    go_wp2_with fail
    refine (does_any _).mono ?_
    rintro e w10 ⟨rfl, hb10⟩
    have HB := Lib.hid ((Hb0.out.trans (HL9.out.below.mono Hb0.out.size)).trans (hb10.mono (Nat.le_trans Hb0.out.size HL9.out.size)))
    clear hb10
    go_wp2_with fail
    go_ret
    exact ⟨rfl, HB.out⟩
theorem walkDiskSwap (x : ByteArray × ByteArray) (n : Int) (k : Value × List Int) (w : World) (h0 : x.1.size ≤ maxLen ∧ x.2.size ≤ maxLen) (h1 : 0 ≤ n ∧ n ≤ 255) (h2 : KeepR w (fun k => w.heap.size ≤ k) k.1 k.2 ∧ k.2.length ≤ maxLen) :
    Calls Try.prog 3 #[.agg #[.string x.1, .string x.2], .int .u8 n, k.1] w fun e w' => e = .returned (.bool true) ∧ Below w.heap.size w w' :=
  diskSwap_any x.1 x.2 n k.1 k.2 w h0.1 h0.2 h1 h2.1 h2.2
end Go.Proofs.Ytnngdflamkdgaaa

/- A cell, a batch read from bytes: walked. -/
import Derived.Test.YtcijhhnbhnaiaaaGreatDoorJouB
namespace Go.Proofs.YtcijhhnbhnaiaaaGreatDoor
set_option linter.unusedSimpArgs false
set_option linter.unusedVariables false
set_option maxRecDepth 100000
open Go.RowKit

def OnePost (s : ByteArray) (p : Nat) (e : Ending) : Prop := match Jou.one s.data.toList p with
  | some x => e = .returned (.tuple #[celV x.1, .int .i64 x.2, .bool true])
  | none => ∃ (c : Jou.Cell) (at_ : Int), e = .returned (.tuple #[celV c, .int .i64 at_, .bool false])
theorem cset {w : World} {b : Nat} {t : TypeId} {x y z u0 u1 u2 : Value} (h : Blk w b t #[x, y, z]) : ∀ w', w' = ((w.setCell ⟨b, 0, none⟩ u0).setCell ⟨b, 1, none⟩ u1).setCell ⟨b, 2, none⟩ u2 → Blk w' b t #[u0, u1, u2] ∧ Chg (fun g => g = b) w w' := by
  intro w' hw
  rw [hw]
  exact ⟨((h.set 0 u0).set 1 u1).set 2 u2, (((Chg.refl _ _).setCell (S := fun g => g = b) (fun _ => rfl) _).setCell (S := fun g => g = b) (fun _ => rfl) _).setCell (S := fun g => g = b) (fun _ => rfl) _⟩
theorem ret3 {w' : World} {b : Nat} {x y z : Value} (h : Blk w' b 81 #[x, y, z]) : True := trivial
set_option maxHeartbeats 4000000 in
theorem one_any (s : ByteArray) (p : Nat) (w : World) (hs : s.size ≤ maxLen) (hp : p ≤ s.size) :
    Calls Tryz.prog 52 #[.string s, .int .i64 p] w fun e w' => OnePost s p e ∧ Below w.heap.size w w' := by
  have hsm : s.size ≤ 9223372036854775807 := by unfold maxLen at hs; omega
  have HT := Lib.hid (fun (W : World) (q : Nat) (hq : q ≤ s.size) => getText_any s q W hs (by omega))
  have HG := Lib.hid (fun (W : World) (q : Nat) (hq : q ≤ s.size) => get_any s q W hs (by omega))
  obtain ⟨w1, hw1⟩ : ∃ w1, w1 = w.alloc (.cells #[.string ⟨#[]⟩, .int .i64 0, .string ⟨#[]⟩] 81 (0, 0)) := ⟨_, rfl⟩
  have hb1 : Below w.heap.size w w1 := by rw [hw1]; exact (Below.refl _ _).alloc (Nat.le_refl _) _
  have hk1 : Blk w1 w.heap.size 81 #[.string ⟨#[]⟩, .int .i64 0, .string ⟨#[]⟩] := by rw [hw1]; exact Blk.alloc_new w _ _
  have HW1 := Lib.hid hw1
  have HB1 := Lib.hid hb1
  have HK1 := Lib.hid hk1
  obtain ⟨c0, c1, c2, f0, f1, f2⟩ := cblk hk1
  have hpm : p ≤ 9223372036854775807 := by omega
  clear hw1 hb1 hk1
  cases h1 : Ed.txt s.data.toList p with
  | none =>
    have hone : Jou.one s.data.toList p = none := by unfold Jou.one; rw [h1]
    unfold OnePost
    rw [hone]
    have HT1 := Lib.hid (HT.out w1 p hp)
    rw [h1] at HT1
    unfold txtE at HT1
    clear hone h1
    go_enter Tryz.func52, Tryz.ntmps52
    go_wp2_with fail
    rw [← HW1.out]
    refine HT1.out.mono ?_
    rintro e w2 ⟨rfl, rfl⟩
    go_wp2_with fail
    obtain ⟨w9, hw9⟩ : ∃ w9, w9 = (((w1.setCell ⟨w.heap.size, 0, none⟩ (.string ⟨#[]⟩)).setCell ⟨w.heap.size, 0, none⟩ (.string ⟨#[]⟩)).setCell ⟨w.heap.size, 1, none⟩ (.int .i64 0)).setCell ⟨w.heap.size, 2, none⟩ (.string ⟨#[]⟩) := ⟨_, rfl⟩
    rw [← hw9]
    obtain ⟨z1, z2⟩ := cset (HK1.out.set 0 _) w9 hw9
    obtain ⟨r0, r1, r2, _⟩ := cblk z1
    have hb9 : Below w.heap.size w (w1.setCell ⟨w.heap.size, 0, none⟩ (.string ⟨#[]⟩)) := HB1.out.setCell (p := ⟨w.heap.size, 0, none⟩) (Nat.le_refl _) _
    refine bodyPost_ret (v := .tuple #[.agg #[.string ⟨#[]⟩, .int .i64 0, .string ⟨#[]⟩], .int .i64 0, .bool false]) (by simp [results, Tryz.results52, go_sem, r0, r1, r2]) rfl ⟨⟨⟨⟨#[]⟩, 0, ⟨#[]⟩⟩, 0, rfl⟩, hb9.trans (z2.below hb9.size fun g hg e => by omega)⟩
  | some x1 =>
    obtain ⟨k, p1⟩ := x1
    obtain ⟨hp1, _, _⟩ := txt_ends h1
    have HT1 := Lib.hid (HT.out w1 p hp)
    rw [h1] at HT1
    unfold txtE at HT1
    obtain ⟨key, hkey⟩ : ∃ key : ByteArray, key = ⟨k.toArray⟩ := ⟨_, rfl⟩
    simp only [← hkey] at HT1
    have h2' : Blk (w1.setCell ⟨w.heap.size, 0, none⟩ (.string key)) w.heap.size 81 #[.string key, .int .i64 0, .string ⟨#[]⟩] := HK1.out.set 0 _
    obtain ⟨w2, hw2⟩ : ∃ w2, w2 = w1.setCell ⟨w.heap.size, 0, none⟩ (.string key) := ⟨_, rfl⟩
    rw [← hw2] at h2'
    have HK2 := Lib.hid h2'
    have HB2 := Lib.hid (show Below w.heap.size w w2 by rw [hw2]; exact HB1.out.setCell (p := ⟨w.heap.size, 0, none⟩) (Nat.le_refl _) _)
    have HW2 := Lib.hid hw2
    have Hkey := Lib.hid hkey
    clear h2' hw2 hkey
    have hp1m : p1 ≤ 9223372036854775807 := by omega
    cases h2 : Var.get s.data.toList p1 with
    | none =>
      have hone : Jou.one s.data.toList p = none := by unfold Jou.one; rw [h1]; simp only; rw [h2]
      unfold OnePost
      rw [hone]
      have HG2 := Lib.hid (HG.out w2 p1 hp1)
      rw [h2] at HG2
      unfold gotE at HG2
      clear hone h1 h2
      go_enter Tryz.func52, Tryz.ntmps52
      go_wp2_with fail
      rw [← HW1.out]
      refine HT1.out.mono ?_
      rintro e w3 ⟨rfl, rfl⟩
      go_wp2_with fail
      rw [← HW2.out]
      refine HG2.out.mono ?_
      rintro e w3 ⟨rfl, rfl⟩
      clear c0 c1 c2 f0 f1 f2
      obtain ⟨c0, c1, c2, f0, f1, f2⟩ := cblk HK2.out
      go_wp2_with fail
      obtain ⟨w9, hw9⟩ : ∃ w9, w9 = (((w2.setCell ⟨w.heap.size, 1, none⟩ (.int .i64 0)).setCell ⟨w.heap.size, 0, none⟩ (.string ⟨#[]⟩)).setCell ⟨w.heap.size, 1, none⟩ (.int .i64 0)).setCell ⟨w.heap.size, 2, none⟩ (.string ⟨#[]⟩) := ⟨_, rfl⟩
      rw [← hw9]
      obtain ⟨z1, z2⟩ := cset (HK2.out.set 1 _) w9 hw9
      obtain ⟨r0, r1, r2, _⟩ := cblk z1
      have hb9 : Below w.heap.size w (w2.setCell ⟨w.heap.size, 1, none⟩ (.int .i64 0)) := HB2.out.setCell (p := ⟨w.heap.size, 1, none⟩) (Nat.le_refl _) _
      refine bodyPost_ret (v := .tuple #[.agg #[.string ⟨#[]⟩, .int .i64 0, .string ⟨#[]⟩], .int .i64 0, .bool false]) (by simp [results, Tryz.results52, go_sem, r0, r1, r2]) rfl ⟨⟨⟨⟨#[]⟩, 0, ⟨#[]⟩⟩, 0, rfl⟩, hb9.trans (z2.below hb9.size fun g hg e => by omega)⟩
    | some x2 =>
      obtain ⟨n, p2⟩ := x2
      obtain ⟨hp2, _, hn63⟩ := get_le h2
      have HG2 := Lib.hid (HG.out w2 p1 hp1)
      rw [h2] at HG2
      unfold gotE at HG2
      simp only at HG2
      have h3' : Blk (w2.setCell ⟨w.heap.size, 1, none⟩ (.int .i64 n)) w.heap.size 81 #[.string key, .int .i64 n, .string ⟨#[]⟩] := HK2.out.set 1 _
      obtain ⟨w3, hw3⟩ : ∃ w3, w3 = w2.setCell ⟨w.heap.size, 1, none⟩ (.int .i64 n) := ⟨_, rfl⟩
      rw [← hw3] at h3'
      have HK3 := Lib.hid h3'
      have HB3 := Lib.hid (show Below w.heap.size w w3 by rw [hw3]; exact HB2.out.setCell (p := ⟨w.heap.size, 1, none⟩) (Nat.le_refl _) _)
      have HW3 := Lib.hid hw3
      clear h3' hw3
      have hp2m : p2 ≤ 9223372036854775807 := by omega
      cases h3 : Ed.txt s.data.toList p2 with
      | none =>
        have hone : Jou.one s.data.toList p = none := by unfold Jou.one; rw [h1]; simp only; rw [h2]; simp only; rw [h3]
        unfold OnePost
        rw [hone]
        have HT3 := Lib.hid (HT.out w3 p2 hp2)
        rw [h3] at HT3
        unfold txtE at HT3
        clear hone h1 h2 h3
        go_enter Tryz.func52, Tryz.ntmps52
        go_wp2_with fail
        rw [← HW1.out]
        refine HT1.out.mono ?_
        rintro e w8 ⟨rfl, rfl⟩
        go_wp2_with fail
        rw [← HW2.out]
        refine HG2.out.mono ?_
        rintro e w8 ⟨rfl, rfl⟩
        clear c0 c1 c2 f0 f1 f2
        obtain ⟨c0, c1, c2, f0, f1, f2⟩ := cblk HK2.out
        go_wp2_with fail
        rw [← HW3.out]
        refine HT3.out.mono ?_
        rintro e w4 ⟨rfl, rfl⟩
        clear c0 c1 c2 f0 f1 f2
        obtain ⟨c0, c1, c2, f0, f1, f2⟩ := cblk HK3.out
        go_wp2_with fail
        obtain ⟨w9, hw9⟩ : ∃ w9, w9 = (((w3.setCell ⟨w.heap.size, 2, none⟩ (.string ⟨#[]⟩)).setCell ⟨w.heap.size, 0, none⟩ (.string ⟨#[]⟩)).setCell ⟨w.heap.size, 1, none⟩ (.int .i64 0)).setCell ⟨w.heap.size, 2, none⟩ (.string ⟨#[]⟩) := ⟨_, rfl⟩
        rw [← hw9]
        obtain ⟨z1, z2⟩ := cset (HK3.out.set 2 _) w9 hw9
        obtain ⟨r0, r1, r2, _⟩ := cblk z1
        have hb9 : Below w.heap.size w (w3.setCell ⟨w.heap.size, 2, none⟩ (.string ⟨#[]⟩)) := HB3.out.setCell (p := ⟨w.heap.size, 2, none⟩) (Nat.le_refl _) _
        refine bodyPost_ret (v := .tuple #[.agg #[.string ⟨#[]⟩, .int .i64 0, .string ⟨#[]⟩], .int .i64 0, .bool false]) (by simp [results, Tryz.results52, go_sem, r0, r1, r2]) rfl ⟨⟨⟨⟨#[]⟩, 0, ⟨#[]⟩⟩, 0, rfl⟩, hb9.trans (z2.below hb9.size fun g hg e => by omega)⟩
      | some x3 =>
        obtain ⟨vv, p3⟩ := x3
        obtain ⟨hp3, _, _⟩ := txt_ends h3
        have HT3 := Lib.hid (HT.out w3 p2 hp2)
        rw [h3] at HT3
        unfold txtE at HT3
        obtain ⟨val, hval⟩ : ∃ val : ByteArray, val = ⟨vv.toArray⟩ := ⟨_, rfl⟩
        simp only [← hval] at HT3
        have h4' : Blk (w3.setCell ⟨w.heap.size, 2, none⟩ (.string val)) w.heap.size 81 #[.string key, .int .i64 n, .string val] := HK3.out.set 2 _
        obtain ⟨w4, hw4⟩ : ∃ w4, w4 = w3.setCell ⟨w.heap.size, 2, none⟩ (.string val) := ⟨_, rfl⟩
        rw [← hw4] at h4'
        have HK4 := Lib.hid h4'
        have HB4 := Lib.hid (show Below w.heap.size w w4 by rw [hw4]; exact HB3.out.setCell (p := ⟨w.heap.size, 2, none⟩) (Nat.le_refl _) _)
        have HW4 := Lib.hid hw4
        have HCH := Lib.hid (fun W => check_c ⟨key, n, val⟩ W)
        unfold celV at HCH
        have hone : Jou.one s.data.toList p = if Jou.May ⟨key, n, val⟩ then some (⟨key, n, val⟩, p3) else none := by
          unfold Jou.one; rw [h1]; simp only; rw [h2]; simp only; rw [h3]; simp only; rw [← Hkey.out, ← hval]
        have Hone := Lib.hid hone
        have hp3m : p3 ≤ 9223372036854775807 := by omega
        obtain ⟨ck, hck⟩ : ∃ ck : Int, ck = if Jou.May ⟨key, n, val⟩ then 0 else 2 := ⟨_, rfl⟩
        simp only at HCH
        rw [← hck] at HCH
        have Hck := Lib.hid hck
        clear h4' hw4 hval hone h1 h2 h3 hck
        go_enter Tryz.func52, Tryz.ntmps52
        go_wp2_with fail
        rw [← HW1.out]
        refine HT1.out.mono ?_
        rintro e w8 ⟨rfl, rfl⟩
        go_wp2_with fail
        rw [← HW2.out]
        refine HG2.out.mono ?_
        rintro e w8 ⟨rfl, rfl⟩
        clear c0 c1 c2 f0 f1 f2
        obtain ⟨c0, c1, c2, f0, f1, f2⟩ := cblk HK2.out
        go_wp2_with fail
        rw [← HW3.out]
        refine HT3.out.mono ?_
        rintro e w5 ⟨rfl, rfl⟩
        clear c0 c1 c2 f0 f1 f2
        obtain ⟨c0, c1, c2, f0, f1, f2⟩ := cblk HK3.out
        go_wp2_with fail
        rw [← HW4.out]
        refine wp_region_two (T := fun W => (W.cell? ⟨w.heap.size, 0, none⟩ = some (.string key) ∧ W.cell? ⟨w.heap.size, 1, none⟩ = some (.int .i64 n) ∧ W.cell? ⟨w.heap.size, 2, none⟩ = some (.string val)) ∧ W.frozen? ⟨w.heap.size, 0, none⟩ = false ∧ W.frozen? ⟨w.heap.size, 1, none⟩ = false ∧ W.frozen? ⟨w.heap.size, 2, none⟩ = false) (S := fun _ => True) (n := 99) (by kernel_rfl) ?_
        obtain ⟨y1, hy1⟩ : ∃ y1, y1 = w4.drew := ⟨_, rfl⟩
        rw [← hy1]
        have hby : Below w4.heap.size w4 y1 := by rw [hy1]; exact (Below.refl _ _).drew
        have HY1 := Lib.hid (HB4.out.trans (hby.mono HB4.out.size))
        have HKy := Lib.hid (HK4.out.below hby)
        have hS : True := trivial
        have hT : (y1.cell? ⟨w.heap.size, 0, none⟩ = some (.string key) ∧ y1.cell? ⟨w.heap.size, 1, none⟩ = some (.int .i64 n) ∧ y1.cell? ⟨w.heap.size, 2, none⟩ = some (.string val)) ∧ y1.frozen? ⟨w.heap.size, 0, none⟩ = false ∧ y1.frozen? ⟨w.heap.size, 1, none⟩ = false ∧ y1.frozen? ⟨w.heap.size, 2, none⟩ = false := by
          obtain ⟨x0, x1, x2, g0, g1, g2⟩ := cblk HKy.out
          exact ⟨⟨x0, x1, x2⟩, g0, g1, g2⟩
        clear hy1 hby c0 c1 c2 f0 f1 f2
        refine two_takeT 0 (some 40) (v := ?_) rfl rfl (by kernel_rfl) (by kernel_rfl) (by kernel_rfl) (by decide) (fun _ _ _ h => h) (Or.inl ⟨by rfl, ?hy0⟩) hT hS ?_
        case hy0 => (intro w' hT'; (try unfold T8 at hT'); (try unfold T9 at hT'); (try unfold S8 at hT'); go_simp; (try with_reducible rfl))
        try simp only [Act.put, List.setIfInBounds_toArray, List.set_cons_zero, List.set_cons_succ]
        refine two_takeT 1 (some 41) (v := ?_) rfl rfl (by kernel_rfl) (by kernel_rfl) (by kernel_rfl) (by decide) (fun _ _ _ h => h) (Or.inl ⟨by rfl, ?hy1⟩) hT hS ?_
        case hy1 => (intro w' hT'; (try unfold T8 at hT'); (try unfold T9 at hT'); (try unfold S8 at hT'); go_simp; (try with_reducible rfl))
        try simp only [Act.put, List.setIfInBounds_toArray, List.set_cons_zero, List.set_cons_succ]
        refine two_takeT 2 (some 42) (v := ?_) rfl rfl (by kernel_rfl) (by kernel_rfl) (by kernel_rfl) (by decide) (fun _ _ _ h => h) (Or.inl ⟨by rfl, ?hy2⟩) hT hS ?_
        case hy2 => (intro w' hT'; (try unfold T8 at hT'); (try unfold T9 at hT'); (try unfold S8 at hT'); go_simp; (try with_reducible rfl))
        try simp only [Act.put, List.setIfInBounds_toArray, List.set_cons_zero, List.set_cons_succ]
        refine two_one 3 rfl (by kernel_rfl) ?_
        intro K hK
        go_simp
        refine (HCH.out y1).mono ?_
        rintro e y2 ⟨rfl, hbz⟩
        have HKz := Lib.hid (HKy.out.below hbz)
        have HBz := Lib.hid (HY1.out.trans (hbz.mono HY1.out.size))
        have hT1 : (y2.cell? ⟨w.heap.size, 0, none⟩ = some (.string key) ∧ y2.cell? ⟨w.heap.size, 1, none⟩ = some (.int .i64 n) ∧ y2.cell? ⟨w.heap.size, 2, none⟩ = some (.string val)) ∧ y2.frozen? ⟨w.heap.size, 0, none⟩ = false ∧ y2.frozen? ⟨w.heap.size, 1, none⟩ = false ∧ y2.frozen? ⟨w.heap.size, 2, none⟩ = false := by
          obtain ⟨x0, x1, x2, g0, g1, g2⟩ := cblk HKz.out
          exact ⟨⟨x0, x1, x2⟩, g0, g1, g2⟩
        refine hK.out _ _ hT1 (fun _ _ => hS) ?_
        clear hK K hT hbz
        have hT := hT1
        clear hT1
        try simp only [Act.put, List.setIfInBounds_toArray, List.set_cons_zero, List.set_cons_succ]
        refine two_takeT 4 (some 44) (v := ?_) rfl rfl (by kernel_rfl) (by kernel_rfl) (by kernel_rfl) (by decide) (fun _ _ _ h => h) (Or.inl ⟨by rfl, ?hy4⟩) hT hS ?_
        case hy4 => (intro w' hT'; (try unfold T8 at hT'); (try unfold T9 at hT'); (try unfold S8 at hT'); go_simp; (try with_reducible rfl))
        try simp only [Act.put, List.setIfInBounds_toArray, List.set_cons_zero, List.set_cons_succ]
        refine two_one 5 rfl (by kernel_rfl) ?_
        intro K hK
        go_simp
        obtain ⟨y3, hy3⟩ : ∃ y3, y3 = ((y2.setCell ⟨w.heap.size, 0, none⟩ (.string key)).setCell ⟨w.heap.size, 1, none⟩ (.int .i64 n)).setCell ⟨w.heap.size, 2, none⟩ (.string val) := ⟨_, rfl⟩
        rw [← hy3]
        obtain ⟨z1, z2⟩ := cset HKz.out y3 hy3
        have HB3' := Lib.hid (HBz.out.trans (z2.below HBz.out.size fun g hg e => by omega))
        have hT1 : (y3.cell? ⟨w.heap.size, 0, none⟩ = some (.string key) ∧ y3.cell? ⟨w.heap.size, 1, none⟩ = some (.int .i64 n) ∧ y3.cell? ⟨w.heap.size, 2, none⟩ = some (.string val)) ∧ y3.frozen? ⟨w.heap.size, 0, none⟩ = false ∧ y3.frozen? ⟨w.heap.size, 1, none⟩ = false ∧ y3.frozen? ⟨w.heap.size, 2, none⟩ = false := by
          obtain ⟨x0, x1, x2, g0, g1, g2⟩ := cblk z1
          exact ⟨⟨x0, x1, x2⟩, g0, g1, g2⟩
        refine hK.out _ _ hT1 (fun _ _ => hS) ?_
        clear hK K hT hy3 z1 z2
        have hT := hT1
        clear hT1
        try simp only [Act.put, List.setIfInBounds_toArray, List.set_cons_zero, List.set_cons_succ]
        refine two_takeT 6 (some 5) (v := ?_) rfl rfl (by kernel_rfl) (by kernel_rfl) (by kernel_rfl) (by decide) (fun _ _ _ h => h) (Or.inl ⟨by rfl, ?hy6⟩) hT hS ?_
        case hy6 => (intro w' hT'; (try unfold T8 at hT'); (try unfold T9 at hT'); (try unfold S8 at hT'); go_simp; (try with_reducible rfl))
        try simp only [Act.put, List.setIfInBounds_toArray, List.set_cons_zero, List.set_cons_succ]
        refine two_takeT 7 (some 6) (v := ?_) rfl rfl (by kernel_rfl) (by kernel_rfl) (by kernel_rfl) (by decide) (fun _ _ _ h => h) (Or.inl ⟨by rfl, ?hy7⟩) hT hS ?_
        case hy7 => (intro w' hT'; (try unfold T8 at hT'); (try unfold T9 at hT'); (try unfold S8 at hT'); go_simp; (try with_reducible rfl))
        try simp only [Act.put, List.setIfInBounds_toArray, List.set_cons_zero, List.set_cons_succ]
        refine two_done (by kernel_rfl) ?_ _
        obtain ⟨⟨r0, r1, r2⟩, _⟩ := hT
        go_wp2_with fail
        refine bodyPost_ret (v := .tuple #[.agg #[.string key, .int .i64 n, .string val], .int .i64 p3, .bool (ck == 0)]) (by simp [results, Tryz.results52, go_sem, r0, r1, r2]) rfl ⟨?_, HB3'.out⟩
        unfold OnePost
        rw [Hone.out, Hck.out]
        by_cases hm : Jou.May ⟨key, n, val⟩
        · rw [if_pos hm, if_pos hm]; rfl
        · rw [if_neg hm, if_neg hm]; exact ⟨⟨key, n, val⟩, p3, rfl⟩
def DecCPost (s : ByteArray) (w : World) (e : Ending) (w' : World) : Prop := Below w.heap.size w w' ∧ match Jou.dec s.data.toList with
  | some l => ∃ v, e = .returned (.tuple #[v, .int .i64 0]) ∧ OwnC w' w.heap.size v l
  | none => e = .returned (.tuple #[.slice none 0 0, .int .i64 30])
set_option maxHeartbeats 4000000 in
theorem decode_c (s : ByteArray) (w : World) (hs : s.size ≤ 1000000) :
    Calls Tryz.prog 26 #[.string s] w (DecCPost s w) := by
  have HO := Lib.hid (fun (W : World) (q : Nat) (hq : q ≤ s.size) => one_any s q W (by unfold maxLen; omega) hq)
  obtain ⟨D, hD⟩ : ∃ D, D = Jou.dec s.data.toList := ⟨_, rfl⟩
  have HD := Lib.hid hD
  have hsl : s.data.toList.length = s.size := by simp
  have Hsl := Lib.hid hsl
  unfold DecCPost
  rw [← hD]
  clear hD hsl
  go_enter Tryz.func26, Tryz.ntmps26
  go_wp2_with fail
  go_loopw [4, 5, 6, 7, 8] (fun v4 v5 _ _ _ wr => ∃ (p : Nat) (acc : List Jou.Cell), v5 = .int .i64 p ∧ p ≤ s.size ∧ acc.length ≤ p ∧ OwnC wr w.heap.size v4 acc ∧ Below w.heap.size w wr ∧ Jou.decR s.data.toList (s.size - p) p acc = D) (fun _ v5 _ _ _ _ => s.size - (intOf v5).toNat)
  case atStart => exact ⟨0, [], rfl, by omega, by simp, OwnC.nil _ _, Below.refl _ _, by rw [HD.out]; unfold Jou.dec; rw [Hsl.out]; rfl⟩
  case round =>
    obtain ⟨p, acc, rfl, hp, hac, hown, hb, hdec⟩ := hrel
    obtain ⟨ox, oc, hov, _⟩ := hown.rd
    subst hov
    have HOW := Lib.hid hown
    have HB := Lib.hid hb
    have HDE := Lib.hid hdec
    have hz := hb.size
    clear hown hb hdec
    by_cases hlt : p < s.size
    · have hlt2 : (p : Int) < s.size := by omega
      have h1 := HO.out wr p hp
      have hst := HDE.out
      obtain ⟨f, hf⟩ : ∃ f, s.size - p = f + 1 := ⟨s.size - p - 1, by omega⟩
      rw [hf] at hst
      unfold Jou.decR at hst
      rw [if_pos (by rw [Hsl.out]; exact hlt)] at hst
      unfold OnePost at h1
      cases ho : Jou.one s.data.toList p with
      | none =>
        rw [ho] at h1 hst
        simp only at h1 hst
        subst hst
        have H1 := Lib.hid h1
        clear h1 ho HDE hf
        go_wp2_with fail
        refine H1.out.mono ?_
        rintro e w2 ⟨⟨c, at_, rfl⟩, hb2⟩
        have HB2 := Lib.hid (HB.out.trans (hb2.mono HB.out.size))
        have hz2 := HB2.out.size
        unfold celV
        clear hb2
        go_wp2_with fail
        go_ret2
        exact ⟨HB2.out.alloc hz2 _, rfl⟩
      | some x =>
        obtain ⟨c, q⟩ := x
        obtain ⟨_, hpq, hqs, _, _⟩ := Jou.one_back ho
        rw [Hsl.out] at hqs
        rw [ho] at h1 hst
        simp only at h1 hst
        have H1 := Lib.hid h1
        have HST := Lib.hid (show Jou.decR s.data.toList (s.size - q) q (acc ++ [c]) = D by rw [← hst]; exact Jou.decR_fuel _ _ _ _ _ (by rw [Hsl.out]; omega) (by rw [Hsl.out]; omega))
        clear h1 hst ho HDE hf
        unfold celV at H1
        go_wp2_with fail
        refine H1.out.mono ?_
        rintro e w2 ⟨rfl, hb2⟩
        obtain ⟨w3, hw3⟩ : ∃ w3, w3 = w2.alloc (.cells #[.string c.key, .int .i64 c.seq, .string c.val] 81 (0, 0)) := ⟨_, rfl⟩
        obtain ⟨w4, hw4⟩ : ∃ w4, w4 = w3.alloc (.cells #[.string c.key, .int .i64 c.seq, .string c.val] 81 (0, 0)) := ⟨_, rfl⟩
        have b3 : Below w2.heap.size w2 w3 := by rw [hw3]; exact (Below.refl _ _).alloc (Nat.le_refl _) _
        have k3 : Blk w3 w2.heap.size 81 #[.string c.key, .int .i64 c.seq, .string c.val] := by rw [hw3]; exact Blk.alloc_new _ _ _
        have b4 : Below w3.heap.size w3 w4 := by rw [hw4]; exact (Below.refl _ _).alloc (Nat.le_refl _) _
        have k4 : Blk w4 w3.heap.size 81 #[.string c.key, .int .i64 c.seq, .string c.val] := by rw [hw4]; exact Blk.alloc_new _ _ _
        have HB4 := Lib.hid (HB.out.trans ((hb2.trans ((b3.trans (b4.mono b3.size)).mono hb2.size)).mono HB.out.size))
        have HOW4 := Lib.hid (((HOW.out.kept hb2).kept b3).kept b4)
        have hz3 : w3.heap.size = w2.heap.size + 1 := by rw [hw3]; simp
        rw [hz3] at k4
        have HRC := Lib.hid (RdC.one k4)
        have HW3 := Lib.hid hw3
        have HW4 := Lib.hid hw4
        obtain ⟨x0, x1, x2, _⟩ := cblk k3
        rw [hw3] at x0 x1 x2
        have hz4 := HB4.out.size
        clear hb2 b3 k3 b4 k4 hw3 hw4 hz3
        go_wp2_with (at_builtin; rw [← HW3.out, ← HW4.out]; refine wpList_append_cells rfl (.tmp 22) (.tmp 24) rfl w.heap.size _ acc rfl HOW4.out _ [c] rfl HRC.out (by simp only [List.length_cons, List.length_nil]; omega) hz4 ?_; intro v5 w5 hown5 hbel5; have HOW5 := Lib.hid hown5; have HB5 := Lib.hid (HB4.out.trans hbel5); clear hown5 hbel5)
        go_roundw
        case rel => exact ⟨q, acc ++ [c], rfl, hqs, by simp only [List.length_append, List.length_cons, List.length_nil]; omega, HOW5.out, HB5.out, HST.out⟩
        case measure => simp [intOf]; omega
    · have hge : ¬ (p : Int) < s.size := by omega
      have hst := HDE.out
      have hf : s.size - p = 0 := by omega
      rw [hf] at hst
      unfold Jou.decR at hst
      rw [if_neg (by rw [Hsl.out]; exact hlt)] at hst
      subst hst
      clear HDE
      go_wp2_with fail
      go_ret2
      exact ⟨HB.out, _, rfl, HOW.out⟩
end Go.Proofs.YtcijhhnbhnaiaaaGreatDoor

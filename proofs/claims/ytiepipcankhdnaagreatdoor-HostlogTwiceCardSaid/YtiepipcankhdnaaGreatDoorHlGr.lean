/- Acts with a host's log: which lists are too great; what a law's helpers come to: walked. -/
import Derived.Test.YtiepipcankhdnaaGreatDoorJ5
import Derived.Test.YtiepipcankhdnaaGreatDoorHlOpE
import Derived.Test.YtiepipcankhdnaaGreatDoorJ6
namespace Go.Proofs.YtiepipcankhdnaaGreatDoor
set_option linter.unusedSimpArgs false
set_option linter.unusedVariables false
set_option maxRecDepth 100000
open Go.RowKit Go.Maps
open Dsk

def SmallA (a : HAct) : Prop := a.s.note.size ≤ 200 ∧ a.s.service.size ≤ 200 ∧ a.s.host.size ≤ 200 ∧ a.keep.length ≤ 100
def SmallH (l : List HAct) : Prop := l.length ≤ 150 ∧ ∀ (j : Nat) (hj : j < l.length), SmallA l[j]
theorem KeepR.formH {w : World} {S : Nat → Prop} {v : Value} {l : List Int} (h : KeepR w S v l) : ∃ x c, v = .slice x l.length c := by obtain ⟨x, c, e, _⟩ := h; exact ⟨x, c, e⟩
set_option maxHeartbeats 4000000 in
theorem hgreat_any (v : Value) (l : List HAct) (B : Nat) (w : World) (h : RdHA w B v l) (hm : l.length ≤ maxLen) :
    Calls Tryz.prog 21 #[v] w fun e w' => (∃ b : Nat, e = .returned (.bool (b == 1)) ∧ (b ≠ 1 → SmallH l)) ∧ w = w' := by
  obtain ⟨x, c, rfl, hel⟩ := h
  have Hel := Lib.hid hel
  unfold maxLen at hm
  obtain ⟨n, hn⟩ : ∃ n, n = l.length := ⟨_, rfl⟩
  rw [← hn] at hm ⊢
  have Hn := Lib.hid hn
  clear hel hn
  go_enter Tryz.func21, Tryz.ntmps21
  go_wp2_with fail
  go_loop [3] (fun v3 => ∃ (k : Nat), v3 = .int .i64 k ∧ k ≤ n ∧ ∀ (j : Nat) (hj : j < l.length), j < k → SmallA l[j]) (fun v3 => n - (intOf v3).toNat)
  case atStart => exact ⟨0, rfl, Nat.zero_le _, fun j _ hj => absurd hj (by omega)⟩
  case round =>
    obtain ⟨k, rfl, hk, hsm⟩ := hrel
    have Hsm := Lib.hid hsm
    clear hsm
    by_cases hlt : k < n
    · have hkl : k < l.length := by rw [← Hn.out]; exact hlt
      obtain ⟨ho, b, off, rfl, _, hc⟩ := Hel.out k hkl
      obtain ⟨j0, j1, j2, j3, c4, c5, j6, j7, c8, j9, j10, c11⟩ := hact_load (b := b) (off := off + k * 12) (a := l[k]) (fun i hi => by rw [Nat.add_assoc]; exact hc i hi)
      have n4 := ho.s.service
      have n5 := ho.s.host
      have n8 := ho.s.note
      have n11 := ho.keep
      unfold maxLen at n4 n5 n8 n11
      obtain ⟨kx, kc, hkv⟩ := ho.kv.formH
      obtain ⟨a, ha⟩ : ∃ a, a = l[k] := ⟨_, rfl⟩
      rw [← ha] at c4 c5 c8 c11 n4 n5 n8 n11 hkv
      have HA := Lib.hid ha
      obtain ⟨kn, hkn⟩ : ∃ kn, kn = a.keep.length := ⟨_, rfl⟩
      rw [← hkn] at hkv n11
      rw [hkv] at c11
      obtain ⟨s4, e4⟩ : ∃ s4, s4 = a.s.service := ⟨_, rfl⟩
      obtain ⟨s5, e5⟩ : ∃ s5, s5 = a.s.host := ⟨_, rfl⟩
      obtain ⟨s8, e8⟩ : ∃ s8, s8 = a.s.note := ⟨_, rfl⟩
      rw [← e4] at c4 n4
      rw [← e5] at c5 n5
      rw [← e8] at c8 n8
      have HS := Lib.hid (show s8.size ≤ 200 → s4.size ≤ 200 → s5.size ≤ 200 → kn ≤ 100 → ∀ (j : Nat) (hj : j < l.length), j < k + 1 → SmallA l[j] from fun h1 h2 h3 h4 j hj hjk => by
        by_cases e : j < k
        · exact Hsm.out j hj e
        · obtain rfl : j = k := by omega
          rw [← ha]
          exact ⟨by rw [← e8]; exact h1, by rw [← e4]; exact h2, by rw [← e5]; exact h3, by rw [← hkn]; exact h4⟩)
      clear hc ho j0 j1 j2 j3 j6 j7 j9 j10 hkv hkn e4 e5 e8 ha
      go_wp2_with fail
      all_goals first
        | (go_ret; exact ⟨⟨1, rfl, fun h => absurd rfl h⟩, rfl⟩)
        | (go_round
           case rel => exact ⟨k + 1, by go_num, by omega, HS.out (by omega) (by omega) (by omega) (by omega)⟩
           case measure => simp [intOf]; omega)
    · have hge : ¬ (k : Int) < n := by omega
      obtain rfl : k = n := by omega
      by_cases h150 : 150 < k
      · have h150' : (150 : Int) < k := by omega
        go_wp2_with fail
        go_ret
        exact ⟨⟨1, rfl, fun h => absurd rfl h⟩, rfl⟩
      · have h150' : ¬ (150 : Int) < k := by omega
        go_wp2_with fail
        go_ret
        exact ⟨⟨0, rfl, fun _ => ⟨by rw [← Hn.out]; omega, fun j hj => Hsm.out j hj (by rw [Hn.out]; exact hj)⟩⟩, rfl⟩
set_option maxHeartbeats 4000000 in
theorem hspan_any (n : Nat) (hn : n ≤ 1000000) (w : World) : Calls Tryz.prog 32 #[.int .i64 n] w fun e w' => e = .returned (spV (spanN n)) ∧ Below w.heap.size w w' := by
  have hb : Below w.heap.size w ((w.alloc (.cells #[.int .i64 0, .int .i64 0, .int .i64 0, .string ⟨#[]⟩, .string ⟨#[]⟩, .int .i64 0, .int .i64 0, .string ⟨#[]⟩] 31 (0, 0)))) := (Below.refl _ _).alloc (Nat.le_refl _) _
  have HB := Lib.hid hb
  have h7 : Int.tmod (n : Int) 7 = ((n % 7 : Nat) : Int) := by rw [Int.tmod_eq_emod_of_nonneg (by omega)]; omega
  obtain ⟨m, hm⟩ : ∃ m, m = n % 7 := ⟨_, rfl⟩
  rw [← hm] at h7
  have hm7 : m < 7 := by omega
  have HM := Lib.hid hm
  have hw1 : IntKind.i64.wrap (1 + (m : Int)) = 1 + (m : Int) := by rw [IntKind.wrap_i64]; omega
  have hw2 : IntKind.i64.wrap (1 + (n : Int)) = 1 + (n : Int) := by rw [IntKind.wrap_i64]; omega
  clear hb hm
  go_enter Tryz.func32, Tryz.ntmps32
  go_wp2_with fail
  have k := Blk.alloc_new w 31 #[.int .i64 (1 + (m : Int)), .int .i64 (1 + (n : Int)), .int .i64 0, .string ⟨#[115]⟩, .string ⟨#[104]⟩, .int .i64 (n : Int), .int .i64 0, .string ⟨#[]⟩]
  have k0 := k.cell 0
  have k1 := k.cell 1
  have k2 := k.cell 2
  have k3 := k.cell 3
  have k4 := k.cell 4
  have k5 := k.cell 5
  have k6 := k.cell 6
  have k7 := k.cell 7
  simp only [List.getElem?_toArray, List.getElem?_cons_zero, List.getElem?_cons_succ] at k0 k1 k2 k3 k4 k5 k6 k7
  refine bodyPost_ret (v := .agg #[.int .i64 (1 + (m : Int)), .int .i64 (1 + (n : Int)), .int .i64 0, .string ⟨#[115]⟩, .string ⟨#[104]⟩, .int .i64 (n : Int), .int .i64 0, .string ⟨#[]⟩]) (by simp [results, Tryz.results32, go_sem, k0, k1, k2, k3, k4, k5, k6, k7]) rfl ⟨?_, ?_⟩
  · rw [HM.out]
    rfl
  · exact (Below.refl _ _).alloc (Nat.le_refl _) _
section
variable {w0 w w' : World} {X H S : Nat → Prop} {v lv : Value} {d d' : Dk} {j B : Nat} {h : Hl} {vs : List SegV} {l : List Sg}
set_option maxHeartbeats 4000000 in
theorem hall_any (h0 : HS w0 X H w v d j h) (he : LEnv w) (hbd : SgsBnd h.l) (hrun : h.runs d) (hN : (numbered h.l).length ≤ 100000) (hsu : sureL d h.l 0 ≤ 1000000000) {f : Nat} (hf : firstOf h.l = f) {xs : List Sp.Span} (hr : readP d h f 100000 = (xs, ((sureL d h.l 0 : Nat) : Int), 0)) (hxs : f + xs.length = sureL d h.l 0) :
    Calls Tryz.prog 27 #[.pointer (some ⟨j, 0, none⟩)] w fun e w' => ∃ u, e = .returned (.tuple #[u, .bool true]) ∧ OwnSp w' w.heap.size u xs ∧ Below w.heap.size w w' := by
  have HF := Lib.hid (fun (W : World) (hW : Below w.heap.size w W) => hfirst_any (h0.below hW) hbd.many)
  rw [if_pos hrun, hf] at HF
  have HR := Lib.hid (fun (W : World) (hW : Below w.heap.size w W) => hread_any (h0.below hW) (he.below hW) hbd f 100000 (by omega) hsu)
  unfold ReadPost at HR
  rw [hr] at HR
  have HSU := Lib.hid (fun (W : World) (hW : Below w.heap.size w W) => hsure_any (h0.below hW) (he.below hW) hbd)
  rw [if_pos hrun] at HSU
  obtain ⟨su, hsue⟩ : ∃ su, su = sureL d h.l 0 := ⟨_, rfl⟩
  rw [← hsue] at HSU HR hxs hsu
  obtain ⟨xn, hxn⟩ : ∃ xn, xn = xs.length := ⟨_, rfl⟩
  rw [← hxn] at hxs
  have HXN := Lib.hid hxn
  have hsub : (su : Int) - (f : Int) = (xn : Int) := by omega
  have hwr : IntKind.i64.wrap (xn : Int) = xn := by rw [IntKind.wrap_i64]; omega
  clear h0 he hbd hrun hN hf hr hsue hxn
  go_enter Tryz.func27, Tryz.ntmps27
  go_wp2_with fail
  refine (HF.out w (Below.refl _ _)).mono ?_
  rintro e w1 ⟨rfl, hb1⟩
  have HB1 := Lib.hid hb1
  clear hb1
  go_wp2_with fail
  refine (HR.out w1 HB1.out).mono ?_
  rintro e w2 ⟨u, rfl, hou, hb2⟩
  have HOU := Lib.hid hou
  have HB12 := Lib.hid hb2
  have HB2 := Lib.hid (HB1.out.trans (hb2.mono HB1.out.size))
  obtain ⟨ux, uc, hu⟩ := OwnRow.shape hou
  rw [← HXN.out] at hu
  subst hu
  clear hb2 hou
  go_wp2_with fail
  refine (HSU.out w2 HB2.out).mono ?_
  rintro e w3 ⟨rfl, hb3⟩
  have HB23 := Lib.hid hb3
  have HB3 := Lib.hid (HB2.out.trans (hb3.mono HB2.out.size))
  clear hb3
  go_wp2_with fail
  refine (HF.out w3 HB3.out).mono ?_
  rintro e w4 ⟨rfl, hb4⟩
  have HB34 := Lib.hid hb4
  have HB4 := Lib.hid (HB3.out.trans (hb4.mono HB3.out.size))
  clear hb4
  go_wp2_with fail
  refine bodyPost_ret (v := .tuple #[.slice ux xn uc, .bool true]) (by simp [results, Tryz.results27, go_sem]) rfl ?_
  refine ⟨_, rfl, ?_, HB4.out⟩
  exact OwnRow.below (OwnRow.below (HOU.out.base HB1.out.size) HB23.out) HB34.out
end
end Go.Proofs.YtiepipcankhdnaaGreatDoor

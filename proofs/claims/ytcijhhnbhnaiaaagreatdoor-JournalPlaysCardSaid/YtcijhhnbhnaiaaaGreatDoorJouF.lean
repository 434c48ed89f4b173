/- A journal's files: all their numbers; how many bytes; what does not count taken away: walked. -/
import Derived.Test.YtcijhhnbhnaiaaaGreatDoorJouE
namespace Go.Proofs.YtcijhhnbhnaiaaaGreatDoor
set_option linter.unusedSimpArgs false
set_option linter.unusedVariables false
set_option maxRecDepth 100000
open Go.RowKit Go.Maps
open Dsk

section
variable {w0 w w' : World} {X Z Y S : Nat → Prop} {v : Value} {d d' : Dk} {j : Nat} {st num r : Int} {bad : Bool} {ns : List Nat}
theorem strs_jn (ns : List Nat) : strs (ns.map jn) = ns.map jnB := by unfold strs; rw [List.map_map]; rfl
theorem merge_one {l : List Int} (h : l.length ≤ 1) : (l.mergeSort fun x y => decide (x ≤ y)) = l := by
  rcases l with _ | ⟨a, _ | ⟨b, l⟩⟩
  · simp
  · simp
  · simp at h
def nI (ns : List Nat) : List Int := ns.map fun n : Nat => (n : Int)
theorem nI_length (ns : List Nat) : (nI ns).length = ns.length := by unfold nI; simp
theorem nI_snoc (ns : List Nat) (k : Nat) (h : k < ns.length) : nI (ns.take (k + 1)) = nI (ns.take k) ++ [(ns[k] : Int)] := by unfold nI; rw [List.take_succ_eq_append_getElem h, List.map_append]; rfl
set_option maxHeartbeats 2000000 in
theorem jfiles_any (h : Live w0 X w v d) (hN : names d.files = ns.map jn) (hl : ns.length ≤ 1) (hn : ∀ n ∈ ns, NumOk w0 n) :
    Calls Tryz.prog 35 #[v] w fun e w' => ∃ u, e = .returned u ∧ OwnI w' w.heap.size u (nI ns) ∧ Below w.heap.size w w' := by
  have HN := Lib.hid h.names
  have HW0 := Lib.hid h.below
  have HNO := Lib.hid hn
  rw [hN, strs_jn] at HN
  obtain ⟨bd, rfl⟩ := h.ptr
  obtain ⟨m, hm⟩ : ∃ m, m = ns.length := ⟨_, rfl⟩
  have Hm := Lib.hid hm
  rw [← hm] at hl
  clear h hN hn hm
  go_enter Tryz.func35, Tryz.ntmps35
  go_wp2_with fail
  refine HN.out.mono ?_
  rintro e w1 ⟨u, rfl, hu, hb1⟩
  obtain ⟨ux, uc, hus, hcs⟩ := hu.each
  rw [List.length_map, ← Hm.out] at hus
  subst hus
  have HCS := Lib.hid hcs
  have HB1 := Lib.hid hb1
  clear hu hcs hb1
  go_wp2_with fail
  go_loopw [3, 5, 6, 10] (fun v3 _ _ v10 wr => ∃ k : Nat, v10 = .int .i64 k ∧ k ≤ m ∧ OwnI wr w1.heap.size v3 (nI (ns.take k)) ∧ Below w1.heap.size w1 wr) (fun _ _ _ v10 _ => m - (intOf v10).toNat)
  case atStart => exact ⟨0, rfl, by omega, OwnI.nil _ _, Below.refl _ _⟩
  case round =>
    obtain ⟨k, rfl, hk, hown, hb⟩ := hrel
    have HOW := Lib.hid hown
    have HB := Lib.hid hb
    have HBW := Lib.hid (HB1.out.trans (hb.mono HB1.out.size))
    have hz := HBW.out.size
    obtain ⟨ox, oc, hov, _⟩ := hown.each
    rw [nI_length, List.length_take, ← Hm.out, Nat.min_eq_left hk] at hov
    subst hov
    clear hown hb
    by_cases hlt : k < m
    · have hlt2 : (k : Int) < m := by omega
      have hkn : k < ns.length := by rw [← Hm.out]; exact hlt
      obtain ⟨g, rfl, _, hg, hc⟩ := HCS.out k (by rw [List.length_map, ← Hm.out]; exact hlt)
      rw [List.getElem_map] at hc
      obtain ⟨N, hNN⟩ : ∃ N, N = ns[k] := ⟨_, rfl⟩
      rw [← hNN] at hc
      have g0 := (HB.out.cell (p := ⟨g, k, none⟩) hg).trans hc
      have hno : NumOk w0 N := by rw [hNN]; exact HNO.out _ (List.getElem_mem _)
      have HNB := Lib.hid (fun (W : World) (hW : Below wr.heap.size wr W) => jnumber_any hno (HW0.out.trans ((HBW.out.trans (hW.mono HBW.out.size)).mono HW0.out.size)))
      have hpos : (0 : Int) < N := by have := hno.lo; omega
      have HNN := Lib.hid hNN
      have HNOK := Lib.hid hno
      obtain ⟨JB, hJB⟩ : ∃ JB, JB = jnB N := ⟨_, rfl⟩
      rw [← hJB] at g0 HNB
      clear hNN hno hc hJB
      go_wp2_with fail
      refine (HNB.out wr (Below.refl _ _)).mono ?_
      rintro e w2 ⟨rfl, hb2⟩
      obtain ⟨w3, hw3⟩ : ∃ w3, w3 = w2.alloc (.cells #[.int .i64 N] 3 (0, 0)) := ⟨_, rfl⟩
      have b3 : Below w2.heap.size w2 w3 := by rw [hw3]; exact (Below.refl _ _).alloc (Nat.le_refl _) _
      have k3 : Blk w3 w2.heap.size 3 #[.int .i64 N] := by rw [hw3]; exact Blk.alloc_new _ _ _
      have HOW3 := Lib.hid ((HOW.out.kept hb2).kept b3)
      have HB3 := Lib.hid (HB.out.trans ((hb2.trans (b3.mono hb2.size)).mono HB.out.size))
      have HC3 := Lib.hid (show w3.cell? ⟨w2.heap.size, 0, none⟩ = some (.int .i64 N) from k3.cell 0)
      have hz3 : w1.heap.size ≤ w3.heap.size := by have := hb2.size; have := b3.size; have := HB.out.size; omega
      have HL := Lib.hid (show (nI (ns.take k)).length + 1 ≤ 8796093022208 by rw [nI_length, List.length_take]; omega)
      have HW3 := Lib.hid hw3
      clear hb2 b3 k3 hw3 g0
      go_wp2_with (at_builtin; rw [← HW3.out]; refine wpList_append_int rfl (.tmp 18) (.tmp 20) rfl w1.heap.size _ _ rfl HOW3.out w2.heap.size rfl (N : Int) HC3.out HL.out hz3 ?_; intro v5 w5 hown5 hbel5; have HOW5 := Lib.hid hown5; have HB5 := Lib.hid hbel5; clear hown5 hbel5)
      go_roundw
      case rel => exact ⟨k + 1, by go_num, by omega, by rw [nI_snoc ns k hkn, ← HNN.out]; exact HOW5.out, HB3.out.trans HB5.out⟩
      case measure => simp [intOf]; omega
    · have hge : ¬ (k : Int) < m := by omega
      obtain rfl : k = m := by omega
      have hlm : (nI (ns.take k)).length = k := by rw [nI_length, List.length_take, ← Hm.out]; omega
      have hso := sortI_any wr w1.heap.size _ _ HOW.out (by rw [hlm]; omega) HB.out.size
      rw [merge_one (by rw [hlm]; omega)] at hso
      have HSO := Lib.hid hso
      have HT := Lib.hid (show ns.take k = ns by rw [Hm.out, List.take_length])
      clear hso hlm
      go_wp2_with fail
      refine HSO.out.mono ?_
      rintro e w2 ⟨rfl, ho2, hb2⟩
      have HO2 := Lib.hid ho2
      have HB2 := Lib.hid (HB1.out.trans ((HB.out.trans hb2).mono HB1.out.size))
      clear ho2 hb2
      go_wp2_with fail
      go_ret
      rw [HT.out] at HO2
      exact ⟨_, rfl, HO2.out.base HB1.out.size, HB2.out⟩
end
end Go.Proofs.YtcijhhnbhnaiaaaGreatDoor

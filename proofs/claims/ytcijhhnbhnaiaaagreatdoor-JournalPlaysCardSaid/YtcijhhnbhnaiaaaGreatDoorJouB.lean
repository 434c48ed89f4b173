/- A batch as bytes: walked. -/
import Derived.Test.YtcijhhnbhnaiaaaGreatDoorJouA
import Derived.Test.YtcijhhnbhnaiaaaGreatDoorBuild
import Derived.Test.YtcijhhnbhnaiaaaGreatDoorJouShelf
import Derived.Test.YtcijhhnbhnaiaaaGreatDoorSink2
namespace Go.Proofs.YtcijhhnbhnaiaaaGreatDoor
set_option linter.unusedSimpArgs false
set_option linter.unusedVariables false
set_option maxRecDepth 100000
open Go.RowKit

def encQ (l : List Jou.Cell) : List UInt8 × Int := if ∀ c ∈ l, Jou.May c then (Jou.enc l, 0) else ([], 2)
theorem encC_size {c : Jou.Cell} (h : Jou.May c) (hs : c.seq < 9223372036854775808) : (Jou.encC c).length ≤ 300 := by
  have h1 := encT_len c.key (by have := h.2.1; omega)
  have h2 := encT_len c.val (by have := h.2.2.2; omega)
  have h3 := pn_len hs
  have h4 := h.2.1
  have h5 := h.2.2.2
  unfold encTB at h1 h2
  rw [size_l] at h1 h2
  unfold Jou.encC
  simp only [List.length_append]
  omega
theorem enc_snoc (l : List Jou.Cell) (k : Nat) (hk : k < l.length) : Jou.enc (l.take (k + 1)) = Jou.enc (l.take k) ++ Jou.encC l[k] := by
  unfold Jou.enc
  rw [List.take_succ_eq_append_getElem hk, List.flatMap_append]
  simp
theorem enc_take_size (l : List Jou.Cell) (hs : ∀ c ∈ l, c.seq < 9223372036854775808) : ∀ k, k ≤ l.length → (∀ (j : Nat) (hj : j < l.length), j < k → Jou.May l[j]) → (Jou.enc (l.take k)).length ≤ 300 * k
  | 0, _, _ => by simp [Jou.enc]
  | k + 1, hk, hm => by
    have h1 := enc_take_size l hs k (by omega) (fun j hj hjk => hm j hj (by omega))
    have h2 := encC_size (hm k (by omega) (by omega)) (hs _ (List.getElem_mem _))
    rw [enc_snoc l k (by omega), List.length_append]
    omega
theorem encC_cat (c : Jou.Cell) : encTB c.key ++ pnB c.seq ++ encTB c.val = ⟨(Jou.encC c).toArray⟩ := by
  unfold encTB pnB Jou.encC
  simp only [cat_l, List.append_assoc]
set_option maxHeartbeats 4000000 in
theorem encode_c (v : Value) (l : List Jou.Cell) (w : World) (h : RdC w v l) (hl : l.length ≤ 1000000) (hs : ∀ c ∈ l, c.seq < 9223372036854775808) :
    Calls Tryz.prog 24 #[v] w fun e w' => e = .returned (.tuple #[.string ⟨(encQ l).1.toArray⟩, .int .i64 (encQ l).2]) ∧ Below w.heap.size w w' := by
  obtain ⟨x, c, rfl, hcap, hx⟩ := h
  have Hx := Lib.hid hx
  have HS := Lib.hid hs
  obtain ⟨n, hn⟩ : ∃ n, n = l.length := ⟨_, rfl⟩
  rw [← hn] at hl ⊢
  have Hn := Lib.hid hn
  obtain ⟨w1, hw1⟩ : ∃ w1, w1 = w.alloc (.cells #[.pointer none, .slice none 0 0] 86 (0, 0)) := ⟨_, rfl⟩
  have HB1 := Lib.hid (show Below w.heap.size w w1 by rw [hw1]; exact (Below.refl _ _).alloc (Nat.le_refl _) _)
  have HI1 := Lib.hid (show IsB w.heap.size w.heap.size [] w1 by rw [hw1]; exact IsB.new w)
  have HW1 := Lib.hid hw1
  clear hx hs hn hw1 hcap
  go_enter Tryz.func24, Tryz.ntmps24
  go_wp2_with fail
  rw [← HW1.out]
  go_loopw [6, 7, 10] (fun _ _ v10 wr => ∃ k : Nat, v10 = .int .i64 k ∧ k ≤ n ∧ Below w.heap.size w wr ∧ IsB w.heap.size w.heap.size (Lib.byteCells (Jou.enc (l.take k))) wr ∧ ∀ (j : Nat) (hj : j < l.length), j < k → Jou.May l[j]) (fun _ _ v10 _ => n - (intOf v10).toNat)
  case atStart => exact ⟨0, rfl, by omega, HB1.out, HI1.out, fun j _ hj => absurd hj (by omega)⟩
  case round =>
    obtain ⟨k, rfl, hk, hb, hi, hm⟩ := hrel
    have HB := Lib.hid hb
    have HI := Lib.hid hi
    have HM := Lib.hid hm
    have hzw := hb.size
    clear hb hi hm
    by_cases hlt : k < n
    · have hkl : k < l.length := by rw [← Hn.out]; exact hlt
      have hlt2 : (k : Int) < n := by omega
      obtain ⟨xb, off, rfl, hxb, hcs⟩ := Hx.out k hkl
      obtain ⟨cc, hcc⟩ : ∃ cc, cc = l[k] := ⟨_, rfl⟩
      rw [← hcc] at hcs
      obtain ⟨e0, e1, e2⟩ := hcs
      have g0 := (HB.out.cell (p := ⟨xb, off + k * 3, none⟩) hxb).trans e0
      have g1 := (HB.out.cell (p := ⟨xb, off + k * 3 + 1, none⟩) hxb).trans e1
      have g2 := (HB.out.cell (p := ⟨xb, off + k * 3 + 2, none⟩) hxb).trans e2
      obtain ⟨w2, hw2⟩ : ∃ w2, w2 = wr.alloc (.cells #[.string cc.key, .int .i64 cc.seq, .string cc.val] 81 (0, 0)) := ⟨_, rfl⟩
      have hb2 : Below wr.heap.size wr w2 := by rw [hw2]; exact (Below.refl _ _).alloc (Nat.le_refl _) _
      have hk2 : Blk w2 wr.heap.size 81 #[.string cc.key, .int .i64 cc.seq, .string cc.val] := by rw [hw2]; exact Blk.alloc_new wr _ _
      obtain ⟨q0, q1, q2, _⟩ := cblk hk2
      rw [hw2] at q0 q1 q2
      have HK2 := Lib.hid hk2
      have HW2 := Lib.hid hw2
      have Hb2 := Lib.hid hb2
      have HCC := Lib.hid hcc
      have HCH := Lib.hid (check_c cc w2)
      have hsq : cc.seq < 9223372036854775808 := by rw [hcc]; exact HS.out _ (List.getElem_mem _)
      clear hk2 hw2 hb2 hcc e0 e1 e2
      unfold celV at HCH
      by_cases hmay : Jou.May cc
      case neg =>
        rw [if_neg hmay] at HCH
        have HNO := Lib.hid hmay
        clear hmay
        go_wp2_with fail
        rw [← HW2.out]
        refine HCH.out.mono ?_
        rintro e w3 ⟨rfl, hb3⟩
        have HB3 := Lib.hid ((HB.out.trans (Hb2.out.mono HB.out.size)).trans (hb3.mono (by have := HB.out.size; have := Hb2.out.size; omega)))
        clear hb3 q0 q1 q2 g0 g1 g2
        go_wp2_with fail
        go_ret2
        have hq : encQ l = ([], 2) := by
          unfold encQ
          exact if_neg (fun h => HNO.out (by rw [HCC.out]; exact h _ (List.getElem_mem _)))
        rw [hq]
        exact ⟨rfl, HB3.out⟩
      case pos =>
        rw [if_pos hmay] at HCH
        have HY := Lib.hid hmay
        have hk64 := hmay.2.1
        have hv128 := hmay.2.2.2
        have hs0 := hmay.2.2.1
        have z1 := encT_len cc.key (by omega)
        have z2 := pnB_size hsq
        have z3 := encT_len cc.val (by omega)
        have HP1 := Lib.hid (fun W => putText_any cc.key W (by omega))
        have HP2 := Lib.hid (fun W => putP_any cc.seq W hs0 hsq)
        have HP3 := Lib.hid (fun W => putText_any cc.val W (by omega))
        obtain ⟨E1, hE1⟩ : ∃ E, E = encTB cc.key := ⟨_, rfl⟩
        obtain ⟨E2, hE2⟩ : ∃ E, E = pnB cc.seq := ⟨_, rfl⟩
        obtain ⟨E3, hE3⟩ : ∃ E, E = encTB cc.val := ⟨_, rfl⟩
        rw [← hE1] at HP1 z1
        rw [← hE2] at HP2 z2
        rw [← hE3] at HP3 z3
        have hcat : E1 ++ E2 ++ E3 = ⟨(Jou.encC cc).toArray⟩ := by rw [hE1, hE2, hE3]; exact encC_cat cc
        have HCAT := Lib.hid hcat
        have zc : (E1 ++ E2).size ≤ 200 := by rw [ByteArray.size_append]; omega
        have zcc : (E1 ++ E2 ++ E3).size ≤ 400 := by rw [ByteArray.size_append]; omega
        have nz1 : ¬ 9223372036854775807 < E1.size + E2.size := by omega
        have nz2 : ¬ 9223372036854775807 < (E1 ++ E2).size + E3.size := by omega
        have nz3 : ¬ 9223372036854775807 < E1.size + E2.size + E3.size := by omega
        clear hmay hE1 hE2 hE3 hcat
        go_wp2_with fail
        rw [← HW2.out]
        refine HCH.out.mono ?_
        rintro e w3 ⟨rfl, hb3⟩
        have HI3 := Lib.hid ((HI.out.below Hb2.out).below hb3)
        have HB3 := Lib.hid ((HB.out.trans (Hb2.out.mono HB.out.size)).trans (hb3.mono (by have := HB.out.size; have := Hb2.out.size; omega)))
        have HK3 := Lib.hid (HK2.out.below hb3)
        have HW3 := Lib.hid (show Below wr.heap.size wr w3 from Hb2.out.trans (hb3.mono Hb2.out.size))
        clear hb3 q0 q1 q2 g0 g1 g2
        go_wp2_with fail
        refine wp_region_two (S := fun _ => True) (T := fun W => W.cell? ⟨wr.heap.size, 0, none⟩ = some (.string cc.key) ∧ W.cell? ⟨wr.heap.size, 1, none⟩ = some (.int .i64 cc.seq) ∧ W.cell? ⟨wr.heap.size, 2, none⟩ = some (.string cc.val)) (n := 99) (by kernel_rfl) ?_
        obtain ⟨y1, hy1⟩ : ∃ y1, y1 = w3.drew := ⟨_, rfl⟩
        rw [← hy1]
        have hby : Below w3.heap.size w3 y1 := by rw [hy1]; exact (Below.refl _ _).drew
        have HY1 := Lib.hid (HB3.out.trans (hby.mono HB3.out.size))
        have HIy := Lib.hid (HI3.out.below hby)
        have HWy1 := Lib.hid (HW3.out.trans (hby.mono HW3.out.size))
        have HKy := Lib.hid (HK3.out.below hby)
        have hS : True := trivial
        have hT : y1.cell? ⟨wr.heap.size, 0, none⟩ = some (.string cc.key) ∧ y1.cell? ⟨wr.heap.size, 1, none⟩ = some (.int .i64 cc.seq) ∧ y1.cell? ⟨wr.heap.size, 2, none⟩ = some (.string cc.val) := by
          obtain ⟨x0, x1, x2, _⟩ := cblk HKy.out
          exact ⟨x0, x1, x2⟩
        clear hy1 hby
        refine two_takeT 0 (some 19) (v := ?_) rfl rfl (by kernel_rfl) (by kernel_rfl) (by kernel_rfl) (by decide) (fun _ _ _ h => h) (Or.inl ⟨by rfl, ?hy0⟩) hT hS ?_
        case hy0 => (intro w' hT'; (try unfold T8 at hT'); (try unfold T9 at hT'); (try unfold S8 at hT'); go_simp; (try with_reducible rfl))
        try simp only [Act.put, List.setIfInBounds_toArray, List.set_cons_zero, List.set_cons_succ]
        refine two_takeT 1 (some 20) (v := ?_) rfl rfl (by kernel_rfl) (by kernel_rfl) (by kernel_rfl) (by decide) (fun _ _ _ h => h) (Or.inl ⟨by rfl, ?hy1⟩) hT hS ?_
        case hy1 => (intro w' hT'; (try unfold T8 at hT'); (try unfold T9 at hT'); (try unfold S8 at hT'); go_simp; (try with_reducible rfl))
        try simp only [Act.put, List.setIfInBounds_toArray, List.set_cons_zero, List.set_cons_succ]
        refine two_takeT 3 (some 22) (v := ?_) rfl rfl (by kernel_rfl) (by kernel_rfl) (by kernel_rfl) (by decide) (fun _ _ _ h => h) (Or.inl ⟨by rfl, ?hy3⟩) hT hS ?_
        case hy3 => (intro w' hT'; (try unfold T8 at hT'); (try unfold T9 at hT'); (try unfold S8 at hT'); go_simp; (try with_reducible rfl))
        try simp only [Act.put, List.setIfInBounds_toArray, List.set_cons_zero, List.set_cons_succ]
        refine two_takeT 4 (some 23) (v := ?_) rfl rfl (by kernel_rfl) (by kernel_rfl) (by kernel_rfl) (by decide) (fun _ _ _ h => h) (Or.inl ⟨by rfl, ?hy4⟩) hT hS ?_
        case hy4 => (intro w' hT'; (try unfold T8 at hT'); (try unfold T9 at hT'); (try unfold S8 at hT'); go_simp; (try with_reducible rfl))
        try simp only [Act.put, List.setIfInBounds_toArray, List.set_cons_zero, List.set_cons_succ]
        refine two_takeT 7 (some 26) (v := ?_) rfl rfl (by kernel_rfl) (by kernel_rfl) (by kernel_rfl) (by decide) (fun _ _ _ h => h) (Or.inl ⟨by rfl, ?hy7⟩) hT hS ?_
        case hy7 => (intro w' hT'; (try unfold T8 at hT'); (try unfold T9 at hT'); (try unfold S8 at hT'); go_simp; (try with_reducible rfl))
        try simp only [Act.put, List.setIfInBounds_toArray, List.set_cons_zero, List.set_cons_succ]
        refine two_takeT 8 (some 27) (v := ?_) rfl rfl (by kernel_rfl) (by kernel_rfl) (by kernel_rfl) (by decide) (fun _ _ _ h => h) (Or.inl ⟨by rfl, ?hy8⟩) hT hS ?_
        case hy8 => (intro w' hT'; (try unfold T8 at hT'); (try unfold T9 at hT'); (try unfold S8 at hT'); go_simp; (try with_reducible rfl))
        try simp only [Act.put, List.setIfInBounds_toArray, List.set_cons_zero, List.set_cons_succ]
        refine two_one 2 rfl (by kernel_rfl) ?_
        intro K hK
        go_simp
        refine (HP1.out y1).mono ?_
        rintro e y2 ⟨rfl, hbz⟩
        have hT1 : y2.cell? ⟨wr.heap.size, 0, none⟩ = some (.string cc.key) ∧ y2.cell? ⟨wr.heap.size, 1, none⟩ = some (.int .i64 cc.seq) ∧ y2.cell? ⟨wr.heap.size, 2, none⟩ = some (.string cc.val) := by
          obtain ⟨x0, x1, x2, _⟩ := cblk (Blk.below HKy.out hbz)
          exact ⟨x0, x1, x2⟩
        have HBy2 := Lib.hid (Below.trans HY1.out (hbz.mono HY1.out.size))
        have HIy2 := Lib.hid (IsB.below HIy.out hbz)
        have HKy2 := Lib.hid (Blk.below HKy.out hbz)
        have HWy2 := Lib.hid (Below.trans HWy1.out (hbz.mono HWy1.out.size))
        refine hK.out _ _ hT1 (fun _ _ => hS) ?_
        clear hK K hT hbz
        have hT := hT1
        clear hT1
        try simp only [Act.put, List.setIfInBounds_toArray, List.set_cons_zero, List.set_cons_succ]
        refine two_one 5 rfl (by kernel_rfl) ?_
        intro K hK
        go_simp
        refine (HP2.out y2).mono ?_
        rintro e y3 ⟨rfl, hbz⟩
        have hT1 : y3.cell? ⟨wr.heap.size, 0, none⟩ = some (.string cc.key) ∧ y3.cell? ⟨wr.heap.size, 1, none⟩ = some (.int .i64 cc.seq) ∧ y3.cell? ⟨wr.heap.size, 2, none⟩ = some (.string cc.val) := by
          obtain ⟨x0, x1, x2, _⟩ := cblk (Blk.below HKy2.out hbz)
          exact ⟨x0, x1, x2⟩
        have HBy3 := Lib.hid (Below.trans HBy2.out (hbz.mono HBy2.out.size))
        have HIy3 := Lib.hid (IsB.below HIy2.out hbz)
        have HKy3 := Lib.hid (Blk.below HKy2.out hbz)
        have HWy3 := Lib.hid (Below.trans HWy2.out (hbz.mono HWy2.out.size))
        refine hK.out _ _ hT1 (fun _ _ => hS) ?_
        clear hK K hT hbz
        have hT := hT1
        clear hT1
        try simp only [Act.put, List.setIfInBounds_toArray, List.set_cons_zero, List.set_cons_succ]
        refine two_takeT 6 (some 25) (v := ?_) rfl rfl (by kernel_rfl) (by kernel_rfl) (by kernel_rfl) (by decide) (fun _ _ _ h => h) (Or.inl ⟨by rfl, ?hy6⟩) hT hS ?_
        case hy6 => (intro w' hT'; (try unfold T8 at hT'); (try unfold T9 at hT'); (try unfold S8 at hT'); go_simp; (try with_reducible rfl))
        try simp only [Act.put, List.setIfInBounds_toArray, List.set_cons_zero, List.set_cons_succ]
        refine two_one 9 rfl (by kernel_rfl) ?_
        intro K hK
        go_simp
        refine (HP3.out y3).mono ?_
        rintro e y4 ⟨rfl, hbz⟩
        have hT1 : y4.cell? ⟨wr.heap.size, 0, none⟩ = some (.string cc.key) ∧ y4.cell? ⟨wr.heap.size, 1, none⟩ = some (.int .i64 cc.seq) ∧ y4.cell? ⟨wr.heap.size, 2, none⟩ = some (.string cc.val) := by
          obtain ⟨x0, x1, x2, _⟩ := cblk (Blk.below HKy3.out hbz)
          exact ⟨x0, x1, x2⟩
        have HBy4 := Lib.hid (Below.trans HBy3.out (hbz.mono HBy3.out.size))
        have HIy4 := Lib.hid (IsB.below HIy3.out hbz)
        have HKy4 := Lib.hid (Blk.below HKy3.out hbz)
        have HWy4 := Lib.hid (Below.trans HWy3.out (hbz.mono HWy3.out.size))
        refine hK.out _ _ hT1 (fun _ _ => hS) ?_
        clear hK K hT hbz
        have hT := hT1
        clear hT1
        try simp only [Act.put, List.setIfInBounds_toArray, List.set_cons_zero, List.set_cons_succ]
        refine two_takeT 10 (some 29) (v := ?_) rfl rfl (by kernel_rfl) (by kernel_rfl) (by kernel_rfl) (by decide) (fun _ _ _ h => h) (Or.inl ⟨by rfl, ?hy10⟩) hT hS ?_
        case hy10 => (intro w' hT'; (try unfold T8 at hT'); (try unfold T9 at hT'); (try unfold S8 at hT'); go_simp; (try with_reducible rfl))
        try simp only [Act.put, List.setIfInBounds_toArray, List.set_cons_zero, List.set_cons_succ]
        refine two_one 11 rfl (by kernel_rfl) ?_
        intro K hK
        go_simp
        refine (writeString_any w.heap.size w.heap.size _ (E1 ++ E2 ++ E3) y4 HIy4.out (by rw [Lib.byteCells_length]; have := enc_take_size l HS.out k (by omega) HM.out; omega) HBy4.out.size).mono ?_
        rintro e y5 ⟨rfl, ⟨hbu, hb5⟩, U, hU, hch⟩
        have HB5 := Lib.hid (HBy4.out.trans hb5)
        have hi5 : IsB w.heap.size w.heap.size (Lib.byteCells (Jou.enc (l.take (k + 1)))) y5 := by
          right
          rw [enc_snoc l k hkl, ← HCC.out]
          rw [HCAT.out] at hbu
          have : Lib.byteCells (Jou.enc (l.take k) ++ Jou.encC cc) = Lib.byteCells (Jou.enc (l.take k)) ++ Lib.strCells ⟨(Jou.encC cc).toArray⟩ := by
            unfold Lib.byteCells Lib.strCells
            simp
          rw [this]
          exact hbu
        have HI5 := Lib.hid hi5
        clear hbu hb5 hi5
        have hqn : ¬ U wr.heap.size := by
          have hwr : ∀ p, Lib.BuilderAt 86 5 w.heap.size w.heap.size p (Lib.byteCells (Jou.enc (l.take k))) wr → w.heap.size < wr.heap.size ∧ ∃ p' v', wr.heap[w.heap.size]? = some (.cells #[p', v'] 86 (0, 0)) ∧ ∀ g, v'.ownBlock = some g → g < wr.heap.size := fun p hp => by
            have hl := hp.lt
            obtain ⟨_, v', h1, h2, _⟩ := hp
            exact ⟨hl, p, v', h1, fun g hg => (World.ownsRow.lt h2 g hg).2⟩
          obtain ⟨hlt3, p', v', h1, h2⟩ := HI.out.elim (hwr _) (hwr _)
          refine hU _ (by omega) (fun p v0 hv0 e => ?_)
          have h3 := (HWy4.out.block w.heap.size hlt3).trans h1
          have e2 := Option.some.inj (hv0.symm.trans h3)
          injection e2 with e3 _ _
          have e4 : p = p' ∧ v0 = v' := by simpa using e3
          rw [e4.2] at e
          exact absurd (h2 _ e) (by omega)
        have hT1 : y5.cell? ⟨wr.heap.size, 0, none⟩ = some (.string cc.key) ∧ y5.cell? ⟨wr.heap.size, 1, none⟩ = some (.int .i64 cc.seq) ∧ y5.cell? ⟨wr.heap.size, 2, none⟩ = some (.string cc.val) := by
          have hl := HKy4.out.lt
          exact ⟨(hch.cell (p := ⟨wr.heap.size, 0, none⟩) hl hqn).trans hT.1, (hch.cell (p := ⟨wr.heap.size, 1, none⟩) hl hqn).trans hT.2.1, (hch.cell (p := ⟨wr.heap.size, 2, none⟩) hl hqn).trans hT.2.2⟩
        refine hK.out _ _ hT1 (fun _ _ => hS) ?_
        clear hT1 hqn hU hch
        refine two_done (by kernel_rfl) ?_ _
        clear hK K hS hT
        go_wp2_with fail
        go_roundw
        case rel => exact ⟨k + 1, by go_num, by omega, HB5.out, HI5.out, fun j hj hjk => (by
          by_cases e : j < k
          · exact HM.out j hj e
          · obtain rfl : j = k := by omega
            rw [← HCC.out]; exact HY.out)⟩
        case measure => simp [intOf]; omega
    · have hge : ¬ (k : Int) < n := by omega
      have hkn : k = l.length := by rw [← Hn.out]; omega
      have HST := Lib.hid (Tryz.Builder_String_any w.heap.size w.heap.size (Jou.enc (l.take k)) wr HI.out hzw)
      have hq : encQ l = (Jou.enc (l.take k), 0) := by
        unfold encQ
        rw [hkn, List.take_length]
        exact if_pos (fun c hc => by
          obtain ⟨j, hj, rfl⟩ := List.mem_iff_getElem.1 hc
          exact HM.out j hj (by omega))
      obtain ⟨R, hR⟩ : ∃ R : ByteArray, R = ⟨(Jou.enc (l.take k)).toArray⟩ := ⟨_, rfl⟩
      rw [← hR] at HST
      have HRR := Lib.hid hR
      have HQ := Lib.hid hq
      clear hkn hq hR
      go_wp2_with fail
      refine HST.out.mono ?_
      rintro e w2 ⟨rfl, hb2⟩
      have HB2 := Lib.hid (HB.out.trans hb2)
      clear hb2
      go_wp2_with fail
      go_ret2
      rw [HQ.out, HRR.out]
      exact ⟨rfl, HB2.out⟩
end Go.Proofs.YtcijhhnbhnaiaaaGreatDoor

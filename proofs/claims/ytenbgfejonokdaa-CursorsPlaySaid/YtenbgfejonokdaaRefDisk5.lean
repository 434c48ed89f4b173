/- The reference's disk: a file cut out, a file laid. -/
import Derived.Test.YtenbgfejonokdaaRefDisk4
import Derived.Test.YtenbgfejonokdaaStructs
import Derived.Deep.RegionLaw
namespace Go.Proofs.Ytenbgfejonokdaa
open Go.RowKit Go.Maps
open Dsk

theorem Try.info_file : (Try.prog.info? 117).map (fun i => (i.zero, i.size, i.bytes)) = some (some (.agg #[.string ⟨#[]⟩, .string ⟨#[]⟩, .int .i64 0]), 3, 40) := by kernel_rfl
theorem under_files05 : Try.prog.underlying 113 = some (.slice 117) := by kernel_rfl
theorem cellsF_one (m : Files) : ∀ u ∈ cellsF m, u.oneCell' = true := by
  intro u hu
  unfold cellsF at hu
  obtain ⟨p, _, h⟩ := List.mem_flatMap.1 hu
  simp at h
  rcases h with rfl | rfl | rfl <;> rfl
/-- 'append(l, m...)', files, at a step of a region that draws its order. -/
theorem step_append_files {ops : Array Oper} {o : Oper} {a : Act} {K : Act → World → Prop} {Q : Exit → Act → World → Prop} {E : Prop} {w : World} (hgd : o.guard = none) (s x : Operand)
    (ho : o.op = .call { callee := .builtin .append, args := #[s, x], argTypes := #[113, 113] })
    (B : Nat) (v : Value) (m : Files) (hs : a.eval s = v) (hown : OwnF w B v m) (ad : Addr) (n c : Nat) (m2 : Files) (hn : m2.length = n) (hx : a.eval x = .slice (some ad) n c) (hc : ∀ j u, (cellsF m2)[j]? = some u → w.cell? (ad.add j) = some u)
    (hl : m.length + m2.length ≤ 1000000) (hB : B ≤ w.heap.size)
    (h : ∀ v' w', OwnF w' B v' (m ++ m2) → Below B w w' → K (a.put o.dst v') w') : if Region.wanted o (yielded ops a.tmps) = true then Oper.wp Try.prog o a w K Q else E := by
  subst hn
  obtain ⟨i0, hi, hz0, hz1, hz2⟩ := info_parts Try.info_file
  have hw : Region.wanted o (yielded ops a.tmps) = true := by simp [Region.wanted, hgd]
  rw [if_pos hw]
  refine wp_append_own _ s x 113 ho B 117 i0 _ 3 40 under_files05 hi hz0 hz1 hz2 rfl (by decide) v m.length (cellsF m) hs hown ad m2.length c (cellsF m2) hx (cellsF_length m2) hc (cellsF_one m2) ?_ ?_ hB ?_
  · unfold maxLen; omega
  · omega
  · intro v' w' h1 h2 _
    refine h v' w' ?_ ((Below.refl _ _).grown h2 hB fun k hk => ((World.ownsRow.lt hown) k hk).1)
    unfold OwnF
    rw [List.length_append, cellsF_append]
    exact h1
theorem ownF_new (w : World) : OwnF (w.alloc (.cells #[] 117 (0, 0))) w.heap.size (.slice (some ⟨w.heap.size, 0, none⟩) 0 0) [] :=
  ⟨rfl, .inr ⟨w.heap.size, 0, #[], rfl, Nat.le_refl _, heap_alloc_new w _, Nat.le_refl _, by unfold maxLen; omega, rfl, rfl⟩⟩
section
variable {w : World} {F : Nat → Prop} {br : Nat} {vl vk : Value} {st : Bool} {nf : Int} {d : Dk}
/-- A stretch of the row's cells. -/
theorem cellsF_part {w : World} {b : Nat} {m : Files} (hc : ∀ i (hi : i < m.length), w.cell? ⟨b, i * 3, none⟩ = some (.string ⟨m[i].1.toArray⟩) ∧ w.cell? ⟨b, i * 3 + 1, none⟩ = some (.string ⟨m[i].2.data.toArray⟩) ∧ w.cell? ⟨b, i * 3 + 2, none⟩ = some (.int .i64 m[i].2.safe)) (p n : Nat) :
    ∀ j u, (cellsF ((m.drop p).take n))[j]? = some u → w.cell? ((⟨b, p * 3, none⟩ : Addr).add j) = some u := by
  intro j u hj
  have hlt : j < ((m.drop p).take n).length * 3 := by
    rw [← cellsF_length]
    exact (List.getElem?_eq_some_iff.1 hj).1
  have hi : j / 3 < ((m.drop p).take n).length := by omega
  have hg := cellsF_get _ (j / 3) hi
  have hl : ((m.drop p).take n).length ≤ m.length - p := by rw [List.length_take, List.length_drop]; omega
  have hm := hc (p + j / 3) (by omega)
  have he : ((m.drop p).take n)[j / 3] = m[p + j / 3]'(by omega) := by simp
  rw [he] at hg
  rw [add_none]
  have hr : j % 3 = 0 ∨ j % 3 = 1 ∨ j % 3 = 2 := by omega
  rcases hr with hr | hr | hr
  · rw [show p * 3 + j = (p + j / 3) * 3 by omega, hm.1, ← hg.1, show j / 3 * 3 = j by omega, hj]
  · rw [show p * 3 + j = (p + j / 3) * 3 + 1 by omega, hm.2.1, ← hg.2.1, show j / 3 * 3 + 1 = j by omega, hj]
  · rw [show p * 3 + j = (p + j / 3) * 3 + 2 by omega, hm.2.2, ← hg.2.2, show j / 3 * 3 + 2 = j by omega, hj]
theorem row_end {t : TypeId} {a0 a1 a2 a3 a4 a5 a6 v2 : Value} {m : Files} {w2 : World} (hbk : Blk w br t #[a0, a1, a2, a3, a4, a5, a6]) (hb : Below w.heap.size w w2) (ho : OwnF w2 w.heap.size v2 m) :
    OwnF (w2.setCell ⟨br, 4, none⟩ v2) w.heap.size v2 m ∧ Blk (w2.setCell ⟨br, 4, none⟩ v2) br t #[a0, a1, a2, a3, v2, a5, a6] ∧ Chg (· = br) w (w2.setCell ⟨br, 4, none⟩ v2) := by
  have hl := hbk.lt
  refine ⟨ho.chg (put_wr w2 br 4 v2) (fun k e x => ?_), (hbk.below hb).set 4 v2, (Chg.of_below hb).trans (put_wr w2 br 4 v2)⟩
  have := ((World.ownsRow.lt ho) k e).1
  omega
set_option maxRecDepth 100000 in
set_option maxHeartbeats 8000000 in
theorem refCut_in (h : RefIn w F br vl vk st nf d) (i : Nat) (hi : i < d.files.length) :
    Calls Try.prog 121 #[.pointer (some ⟨br, 0, none⟩), .int .i64 i] w fun e w' => e = .returned (.tuple #[]) ∧ ∃ vl', OwnF w' w.heap.size vl' (d.files.take i ++ d.files.drop (i + 1)) ∧
      Blk w' br 115 #[.int .i64 d.room, .int .i64 d.starts, .bool d.off, .bool st, vl', .int .i64 nf, vk] ∧ Chg (· = br) w w' := by
  obtain ⟨b, c, rfl, _, hb, hfr, hcl⟩ := h.row.at_ (by omega)
  obtain ⟨_, _, hv, hlc⟩ := h.row.shape
  injection hv with e1 e2 e3
  subst e1 e3
  have c4 := h.blk.cell 4
  have f4 := h.blk.free 4
  simp at c4
  have hbr := h.blk.lt
  have hcnt := h.ok.count
  have hb0 : Below w.heap.size w ((w.alloc (.cells #[] 117 (0, 0))).drew) := ((Below.refl _ _).alloc (Nat.le_refl _) _).drew
  have p1 := cellsF_part hcl 0 i
  have p2 := cellsF_part hcl (i + 1) (d.files.length - (i + 1))
  have HC1 := Lib.hid (show ∀ j u, (cellsF (d.files.take i))[j]? = some u → ((w.alloc (.cells #[] 117 (0, 0))).drew).cell? ((⟨b, 0, none⟩ : Addr).add j) = some u from fun j u hj => (hb0.cell (p := (⟨b, 0, none⟩ : Addr).add j) (by rw [add_none]; exact hb)).trans (p1 j u hj))
  have HC2 := Lib.hid (show ∀ w1, Below w.heap.size w w1 → ∀ j u, (cellsF (d.files.drop (i + 1)))[j]? = some u → w1.cell? ((⟨b, (i + 1) * 3, none⟩ : Addr).add j) = some u from fun w1 x j u hj => by
    rw [add_none] at *
    refine (x.cell (p := ⟨b, (i + 1) * 3 + j, none⟩) hb).trans ?_
    have := p2 j u (by rw [List.take_of_length_le (by rw [List.length_drop]; omega)]; exact hj)
    rwa [add_none] at this)
  have HB0 := Lib.hid hb0
  have Hbk := Lib.hid h.blk
  have hi2 : (i : Int) < d.files.length := by omega
  have hi3 : (i : Int) ≤ c := by omega
  have hq : IntKind.i64.wrap ((i : Int) + 1) = (i : Int) + 1 := IntWalk.i64_in _ ⟨by omega, by omega⟩
  have hq1 : (i : Int) + 1 ≤ d.files.length := by omega
  have hq2 : ((i : Int) + 1).toNat = i + 1 := by omega
  have hq3 : (0 : Int) ≤ (i : Int) + 1 := by omega
  have hq4 : (d.files.length : Int) ≤ c := by omega
  have HT := Lib.hid (show (d.files.take i).length = i by rw [List.length_take]; omega)
  have HD := Lib.hid (show (d.files.drop (i + 1)).length = d.files.length - (i + 1) by rw [List.length_drop])
  have HL := Lib.hid (show (d.files.take i).length + (d.files.drop (i + 1)).length ≤ 1000000 by rw [List.length_take, List.length_drop]; omega)
  have HZ := Lib.hid (show w.heap.size ≤ ((w.alloc (.cells #[] 117 (0, 0))).drew).heap.size from hb0.size)
  have HN := Lib.hid (show OwnF ((w.alloc (.cells #[] 117 (0, 0))).drew) w.heap.size (.slice (some ⟨w.heap.size, 0, none⟩) 0 0) [] from World.ownsRow.drew (ownF_new w))
  have ca := (hb0.cell (p := ⟨br, 4, none⟩) hbr).trans c4
  have fa := (hb0.frozen (p := ⟨br, 4, none⟩) hbr).trans f4
  have hq5 : (i : Int) ≤ (i : Int) + 1 := by omega
  have hq6 : (i : Int) + 1 ≤ c := by omega
  clear h hcl hfr e2 p1 p2 hb0
  by_cases hce : c = i + 1
  · subst hce
    have HE := Lib.hid (show d.files.drop (i + 1) = [] by rw [List.drop_eq_nil_iff]; omega)
    go_enter Try.func121, Try.ntmps121
    go_wp2_with fail
    go_region_law (first
        | (refine step_append_files rfl (.tmp 5) (.tmp 11) rfl w.heap.size _ [] rfl HN.out ⟨b, 0, none⟩ i (i + 1) (d.files.take i) HT.out rfl HC1.out (by have := HL.out; simp only [List.length_nil]; omega) HZ.out ?_; intro v1 w1 ho1 hb1; have c41 := (hb1.cell (p := ⟨br, 4, none⟩) hbr).trans ca; have f41 := (hb1.frozen (p := ⟨br, 4, none⟩) hbr).trans fa)
        | (refine step_append_files rfl (.tmp 12) (.tmp 19) rfl w.heap.size v1 (d.files.take i) rfl ho1 _ _ _ (d.files.drop (i + 1)) ?hn rfl ?hc ?hl ?hB ?_; (case hn => rw [HE.out]; rfl); (case hc => intro j u hj; rw [HE.out] at hj; cases hj); (case hl => exact HL.out); (case hB => exact Nat.le_trans HZ.out hb1.size); intro v2 w2 ho2 hb2; have c42 := (hb2.cell (p := ⟨br, 4, none⟩) hbr).trans c41; have f42 := (hb2.frozen (p := ⟨br, 4, none⟩) hbr).trans f41; have Hfin := Lib.hid (row_end Hbk.out ((HB0.out.trans hb1).trans hb2) ho2); obtain ⟨x2, cc2, hv2, hlen2⟩ := ho2.shape; subst hv2; clear hlen2 ho1 ho2; generalize (d.files.take i ++ d.files.drop (i + 1)).length = N at Hfin ⊢))
    all_goals
      refine bodyPost_end (results_none rfl _ _ _) rfl ?_
      exact ⟨rfl, _, Hfin.out⟩
  · have hce2 : ¬ (i + 1 = c) := fun e => hce e.symm
    go_enter Try.func121, Try.ntmps121
    go_wp2_with fail
    go_region_law (first
        | (refine step_append_files rfl (.tmp 5) (.tmp 11) rfl w.heap.size _ [] rfl HN.out ⟨b, 0, none⟩ i c (d.files.take i) HT.out rfl HC1.out (by have := HL.out; simp only [List.length_nil]; omega) HZ.out ?_; intro v1 w1 ho1 hb1; have c41 := (hb1.cell (p := ⟨br, 4, none⟩) hbr).trans ca; have f41 := (hb1.frozen (p := ⟨br, 4, none⟩) hbr).trans fa)
        | (refine step_append_files rfl (.tmp 12) (.tmp 19) rfl w.heap.size v1 (d.files.take i) rfl ho1 _ _ _ (d.files.drop (i + 1)) ?hn rfl ?hc ?hl ?hB ?_; (case hn => exact HD.out); (case hc => exact HC2.out w1 (HB0.out.trans hb1)); (case hl => exact HL.out); (case hB => exact Nat.le_trans HZ.out hb1.size); intro v2 w2 ho2 hb2; have c42 := (hb2.cell (p := ⟨br, 4, none⟩) hbr).trans c41; have f42 := (hb2.frozen (p := ⟨br, 4, none⟩) hbr).trans f41; have Hfin := Lib.hid (row_end Hbk.out ((HB0.out.trans hb1).trans hb2) ho2); obtain ⟨x2, cc2, hv2, hlen2⟩ := ho2.shape; subst hv2; clear hlen2 ho1 ho2; generalize (d.files.take i ++ d.files.drop (i + 1)).length = N at Hfin ⊢))
    all_goals
      refine bodyPost_end (results_none rfl _ _ _) rfl ?_
      exact ⟨rfl, _, Hfin.out⟩
end
end Go.Proofs.Ytenbgfejonokdaa

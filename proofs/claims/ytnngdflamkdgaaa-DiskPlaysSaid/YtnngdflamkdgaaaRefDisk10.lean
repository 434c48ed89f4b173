/- The reference's disk: Fail, Rename. -/
import Derived.Test.YtnngdflamkdgaaaRefDisk9
namespace Go.Proofs.Ytnngdflamkdgaaa
set_option maxRecDepth 100000
open Go.RowKit Go.Maps
open Dsk

/-- 'append(s, l...)', numbers. -/
theorem wpList_append_ints {w : World} {ops : Array Oper} {rest : List Oper} {o : Oper} {a : Act} {Q : Exit → Act → World → Prop} (hgd : o.guard = none) (s x : Operand)
    (ho : o.op = .call { callee := .builtin .append, args := #[s, x], argTypes := #[23, 23] })
    (B : Nat) (v0 : Value) (l0 : List Int) (hs : a.eval s = v0) (hown : OwnI w B v0 l0) (v : Value) (hx : a.eval x = v) {S : Nat → Prop} (l : List Int) (hk : KeepR w S v l) (hl : l0.length + l.length ≤ 8796093022208) (hB : B ≤ w.heap.size)
    (h : ∀ v' w', OwnI w' B v' (l0 ++ l) → Below B w w' → wpList Try.prog ops Q rest (a.put o.dst v') w') : wpList Try.prog ops Q (o :: rest) a w := by
  obtain ⟨i0, hi, hz0, hz1, hz2⟩ := info_parts Try.info_int
  obtain ⟨y, c, rfl, hy, hc⟩ := hk
  cases y with
  | none =>
    obtain rfl := hy rfl
    have hl0 : l = [] := by
      cases l with
      | nil => rfl
      | cons z l => obtain ⟨b, off, e, _⟩ := hc 0 (by simp); cases e
    subst hl0
    exact wpList_append_own_none hgd s x 23 ho B 3 i0 1 under_ints hi v0 l0.length (l0.map (Value.int .i64)) hs hown hx (h _ _ (by rw [List.append_nil]; exact hown) (Below.refl _ _))
  | some ad =>
    refine wpList_append_own _ hgd s x 23 ho B 3 i0 (.int .i64 0) 1 8 under_ints hi hz0 hz1 hz2 rfl (by decide) v0 l0.length (l0.map (Value.int .i64)) hs hown ad l.length c (l.map (Value.int .i64)) hx (by simp) ?_ ?_ ?_ ?_ hB ?_
    · intro j u hj
      have hj' : j < l.length := by
        have := (List.getElem?_eq_some_iff.1 hj).1
        simpa using this
      obtain ⟨b, off, e, _, _, hcell⟩ := hc j hj'
      obtain rfl := Option.some.inj e
      have e2 : (⟨b, off, none⟩ : Addr).add j = ⟨b, off + j, none⟩ := by unfold Addr.add; split <;> simp_all
      rw [e2, hcell]
      simp [hj'] at hj
      rw [← hj]
    · intro u hu
      obtain ⟨x, _, rfl⟩ := List.mem_map.1 hu
      rfl
    · unfold maxLen; omega
    · omega
    · intro v' w' h1 h2 _
      refine h v' w' ?_ ((Below.refl _ _).grown h2 hB fun k hk => ((World.ownsRow.lt hown) k hk).1)
      unfold OwnI
      rw [List.length_append, List.map_append]
      exact h1
theorem ownI_new (w : World) : OwnI (w.alloc (.cells #[] 3 (0, 0))) w.heap.size (.slice (some ⟨w.heap.size, 0, none⟩) 0 0) [] :=
  ⟨rfl, .inr ⟨w.heap.size, 0, #[], rfl, Nat.le_refl _, heap_alloc_new w _, Nat.le_refl _, by unfold maxLen; omega, rfl, rfl⟩⟩
section
variable {w : World} {F : Nat → Prop} {br : Nat} {vl vk : Value} {st : Bool} {nf : Int} {d : Dk}
set_option maxHeartbeats 1000000 in
theorem refFail_at {v : Value} (h : RefAt w F v d) (n : Int) (hn : n ≤ 9223372036854775807) (kv0 : Value) (keep : List Int) (hk : KeepR w F kv0 keep) (hkl : keep.length ≤ 1099511627776) :
    Calls Try.prog 55 #[v, .int .i64 n, kv0] w fun e w' => ∃ r, e = .returned (.int .i64 r) ∧ DidR w F v (d.failAt n keep) r w' := by
  have Hat := Lib.hid h
  obtain ⟨br, rfl⟩ := h.ptr
  obtain ⟨vl, vk, st, nf, hi, hrest⟩ := h.open_
  have c2 := hi.blk.cell 2
  simp at c2
  unfold Dk.failAt
  have HI := Lib.hid hi
  have Hk := Lib.hid hk
  clear hi hrest h hk
  cases ho : d.off with
  | true =>
    rw [ho] at c2
    rw [if_pos rfl]
    clear ho
    go_enter Try.func55, Try.ntmps55
    go_wp2_with fail
    go_ret
    exact ⟨51, rfl, DidR.same Hat.out (Below.refl _ _) _⟩
  | false =>
    rw [ho] at c2
    rw [if_neg (by simp)]
    by_cases hn0 : n < 0
    · rw [if_pos hn0]
      clear ho
      go_enter Try.func55, Try.ntmps55
      go_wp2_with fail
      go_ret
      exact ⟨2, rfl, DidR.same Hat.out (Below.refl _ _) _⟩
    · rw [if_neg hn0]
      have Ho := Lib.hid ho
      have f3 := HI.out.blk.free 3
      have f5 := HI.out.blk.free 5
      have c3 := HI.out.blk.cell 3
      have c5 := HI.out.blk.cell 5
      simp at c3 c5
      obtain ⟨w1, hw1⟩ : ∃ w1, w1 = (w.setCell ⟨br, 3, none⟩ (.bool true)).setCell ⟨br, 5, none⟩ (.int .i64 n) := ⟨_, rfl⟩
      have hc1 : Chg (· = br) w w1 := by rw [hw1]; exact (put_wr w br 3 _).trans (put_wr _ br 5 _)
      have hb1 : Blk w1 br 83 #[.int .i64 d.room, .int .i64 d.starts, .bool d.off, .bool true, vl, .int .i64 n, vk] := by rw [hw1]; exact (HI.out.blk.set 3 _).set 5 _
      obtain ⟨w2, hw2⟩ : ∃ w2, w2 = w1.alloc (.cells #[] 3 (0, 0)) := ⟨_, rfl⟩
      have hb12 : Below w1.heap.size w1 w2 := by rw [hw2]; exact (Below.refl _ _).alloc (Nat.le_refl _) _
      have HN := Lib.hid (show OwnI w2 w1.heap.size (.slice (some ⟨w1.heap.size, 0, none⟩) 0 0) [] by rw [hw2]; exact ownI_new w1)
      have hb2 := hb1.below hb12
      have f6 := hb2.free 6
      have c6 := hb2.cell 6
      simp at c6
      have hbr := hb2.lt
      have hbr1 := hb1.lt
      have Hc1 := Lib.hid hc1
      have Hb12 := Lib.hid hb12
      have Hb1 := Lib.hid hb1
      have HW1 := Lib.hid hw1
      have HW2 := Lib.hid hw2
      clear ho hc1 hb1 hb12 hb2 hw1 hw2
      have Hk2 := Lib.hid ((Hk.out.chg Hc1.out (fun k e => e ▸ HI.out.fr)).chg (T := fun _ => False) (Chg.of_below Hb12.out) (fun _ e => e.elim))
      have Hzz := Lib.hid (show w1.heap.size = w.heap.size by rw [HW1.out]; simp)
      rw [Hzz.out] at HN Hb12 hbr1
      go_enter Try.func55, Try.ntmps55
      go_wp2_with (at_builtin; rw [← HW1.out, ← HW2.out]; refine wpList_append_ints rfl (.tmp 21) (.tmp 22) rfl w.heap.size _ [] rfl HN.out kv0 rfl keep Hk2.out (by simp; omega) (by have := Hb12.out.size; have := Hzz.out; omega) ?_; intro v3 w3 hown hb3; rw [List.nil_append] at hown; obtain ⟨x3, cap3, hv3⟩ := hown.shape; subst hv3; have Hown := Lib.hid hown; have Hb3 := Lib.hid hb3; have hz3 := hb3.size; have g6 := (hb3.frozen (p := ⟨br, 6, none⟩) hbr1).trans f6; have d6 := (hb3.cell (p := ⟨br, 6, none⟩) hbr1).trans c6; clear hown hb3 f6 c6)
      go_ret
      have hb13 := Hb12.out.trans Hb3.out
      rw [← Hzz.out] at hb13
      have hb := (Hb1.out.below hb13).set 6 (.slice x3 keep.length cap3)
      rw [Ho.out] at hb
      have hch3 : Chg (· = br) w3 (w3.setCell ⟨br, 6, none⟩ (.slice x3 keep.length cap3)) := put_wr w3 br 6 _
      have hch : Chg (· = br) w (w3.setCell ⟨br, 6, none⟩ (.slice x3 keep.length cap3)) := (Hc1.out.trans (Chg.of_below hb13)).trans hch3
      have hlt := World.ownsRow.lt Hown.out
      have hok : Ok { d with fail := some n, keep := keep } := by
        have := Hat.out.ok.failAt n keep hkl
        unfold Dk.failAt at this
        rw [if_neg (by rw [Ho.out]; decide), if_neg (by omega)] at this
        exact this
      have hz1 := Hc1.out.size
      rw [Ho.out] at hok
      refine ⟨0, rfl, rfl, fun k => F k ∨ (Value.slice x3 keep.length cap3).ownBlock = some k, ⟨br, vl, _, true, n, rfl, ⟨hb, HI.out.row.chg hch (fun k e x => HI.out.row.ne_blk HI.out.blk (show _ = some br from by rw [e]; exact congrArg some x)), (Hown.out.base (Nat.zero_le _)).chg hch3 (fun k e x => ?_), .inl HI.out.fr, fun k e => .inl (HI.out.fl k e), fun k e => .inr e, hok, fun k e => ?_⟩, rfl, fun m hm => ?_, fun m hm => ?_⟩, hch.mono fun k _ e => e ▸ HI.out.fr, fun k e => ?_⟩
      · have := (hlt k e).1
        have x : k = br := x
        omega
      · rcases e with e | e
        · exact Nat.lt_of_lt_of_le (HI.out.lt k e) hch.size
        · exact Nat.lt_of_lt_of_le (hlt k e).2 hch3.size
      · injection hm
      · have : n = m := by injection hm
        omega
      · rcases e with e | e
        · exact .inl e
        · exact .inr (hlt k e).1
theorem ok_del (h : Ok d) (k : Str) {m : Files} (e : d.files = m) : Ok { d with files := del m k } := by
  subst e
  exact h.files (rising_del h.rising _) (fun p hp => ⟨h.named p (mem_del.1 hp).1, h.safe p (mem_del.1 hp).1⟩) (Nat.le_trans (del_le _ _) h.count) (Nat.le_trans (total_sub (del_sub _ _)) h.fits)
set_option maxHeartbeats 4000000 in
theorem refRename_at {v : Value} (h : RefAt w F v d) (name to : ByteArray) (hto : to.size ≤ maxLen) :
    Calls Try.prog 51 #[v, .string name, .string to] w fun e w' => ∃ r, e = .returned (.int .i64 r) ∧ DidR w F v (d.rename name.data.toList to.data.toList) r w' := by
  have Hat := Lib.hid h
  obtain ⟨br, rfl⟩ := h.ptr
  obtain ⟨vl, vk, st, nf, hi, hrest⟩ := h.open_
  have Ha := Lib.hid (refAsks_in hi name)
  clear hi hrest h
  go_enter Try.func51, Try.ntmps51
  go_wp2_with fail
  refine Ha.out.mono ?_
  rintro e w1 ⟨r, c, rfl, rfl, hh⟩
  clear Ha
  rcases hh with ⟨ho, rfl⟩ | ⟨ho, rfl, hg⟩ | ⟨ho, rfl, i, hi, rfl, he⟩
  · have Ho := Lib.hid ho
    clear ho
    go_wp2_with fail
    go_ret
    refine ⟨51, rfl, ?_⟩
    unfold Dk.rename
    rw [if_pos Ho.out]
    exact DidR.same Hat.out (Below.refl _ _) _
  · have Ho := Lib.hid ho
    have Hg := Lib.hid hg
    clear ho hg
    go_wp2_with fail
    go_ret
    refine ⟨4, rfl, ?_⟩
    unfold Dk.rename
    rw [if_neg (by rw [Ho.out]; decide), Hg.out]
    exact DidR.same Hat.out (Below.refl _ _) _
  · have Ho := Lib.hid ho
    have He := Lib.hid he
    have Hi := Lib.hid hi
    have Hbad := Lib.hid (refBad_any to hto w)
    have Hgf := Lib.hid (get_at Hat.out.ok.rising hi he)
    clear ho he
    by_cases hnm : Named to.data.toList
    case neg =>
      rw [show (!decide (Named to.data.toList)) = true by simp [hnm]] at Hbad
      have Hnm := Lib.hid hnm
      clear hnm
      go_wp2_with fail
      refine Hbad.out.mono ?_
      rintro e w2 ⟨rfl, rfl⟩
      go_wp2_with fail
      go_ret
      refine ⟨2, rfl, ?_⟩
      unfold Dk.rename
      rw [if_neg (by rw [Ho.out]; decide), Hgf.out]
      simp only
      rw [if_pos Hnm.out]
      exact DidR.same Hat.out (Below.refl _ _) _
    rw [show (!decide (Named to.data.toList)) = false by simp [hnm]] at Hbad
    have Heq := Lib.hid (show d.rename name.data.toList to.data.toList = d.change (put (del d.files name.data.toList) to.data.toList d.files[i].2) by
      unfold Dk.rename
      rw [if_neg (by rw [Ho.out]; decide), Hgf.out]
      simp only
      rw [if_neg (by simp [hnm])]
      rfl)
    have Hok := Lib.hid (show Ok (d.rename name.data.toList to.data.toList).2 from Hat.out.ok.rename _ _)
    have Hch := Lib.hid (refChanges_at Hat.out Ho.out)
    clear hnm
    go_wp2_with fail
    refine Hbad.out.mono ?_
    rintro e w2 ⟨rfl, rfl⟩
    go_wp2_with fail
    refine Hch.out.mono ?_
    rintro e w2 ⟨hc2, ⟨n, hn, hn0, rfl, hat2⟩ | ⟨hpos, rfl, hat2⟩⟩
    · have H2 := Lib.hid (show DidR w F (.pointer (some ⟨br, 0, none⟩)) (d.rename name.data.toList to.data.toList) 51 w2 from by
        rw [Heq.out, change_crash hn hn0]; exact ⟨rfl, F, hat2, hc2, fun _ e => .inl e⟩)
      clear hc2 hn hn0 hat2
      go_wp2_with fail
      go_ret
      exact ⟨51, rfl, H2.out⟩
    · obtain ⟨vl2, vk2, st2, nf2, hi2, hf2⟩ := hat2.open_
      obtain ⟨b, c, rfl, hb, hFb, hne, hfr, hc0, hc1, hcc2, hrow⟩ := hi2.atm (ticked_files d) hi
      obtain ⟨s0, hs0⟩ : ∃ s : ByteArray, s = ⟨d.files[i].1.toArray⟩ := ⟨_, rfl⟩
      obtain ⟨s, hs⟩ : ∃ s : ByteArray, s = ⟨d.files[i].2.data.toArray⟩ := ⟨_, rfl⟩
      obtain ⟨t, ht⟩ : ∃ t : Nat, t = d.files[i].2.safe := ⟨_, rfl⟩
      replace hc0 : w2.cell? ⟨b, i * 3, none⟩ = some (.string s0) := by rw [hs0]; exact hc0
      replace hc1 : w2.cell? ⟨b, i * 3 + 1, none⟩ = some (.string s) := by rw [hs]; exact hc1
      replace hcc2 : w2.cell? ⟨b, i * 3 + 2, none⟩ = some (.int .i64 t) := by rw [ht]; exact hcc2
      have Hf := Lib.hid (show d.files[i].2 = ⟨s.data.toList, t⟩ by rw [hs, ht])
      have c4 := hi2.blk.cell 4
      simp at c4
      have hi4 : (i : Int) < d.files.length := by omega
      obtain ⟨w3, hw3⟩ : ∃ w3, w3 = w2.alloc (.cells #[.string to, .string s, .int .i64 t] 85 (0, 0)) := ⟨_, rfl⟩
      have hb3 : Below w2.heap.size w2 w3 := by rw [hw3]; exact (Below.refl _ _).alloc (Nat.le_refl _) _
      have hi3 := hi2.below hb3
      have HB3 := Lib.hid (show Blk w3 w2.heap.size 85 #[.string to, .string s, .int .i64 t] by rw [hw3]; exact Blk.alloc_new _ _ _)
      have Hcut := Lib.hid (hi3.cutm (ticked_files d) hi (by exact He.out))
      have HI3 := Lib.hid hi3
      have Hb3 := Lib.hid hb3
      have HI2 := Lib.hid hi2
      have HF2 := Lib.hid hf2
      have HC2 := Lib.hid hc2
      have Hpos := Lib.hid hpos
      have HW3 := Lib.hid hw3
      clear hi2 hi3 hf2 hc2 hat2 hpos hfr hb3 hw3 hrow hs0 hs ht
      go_wp2_with fail
      rw [← HW3.out]
      refine Hcut.out.mono ?_
      rintro e w4 ⟨rfl, vl4, ho4, hb4, hc4⟩
      have hbl4 := HB3.out.chg hc4 (fun e => by have := HI2.out.blk.lt; omega)
      have HI4 := Lib.hid (HI3.out.newRow ho4 hb4 hc4 (ok_del (ticked_ok Hat.out.ok) _ (ticked_files d)))
      have Hpl := Lib.hid (refPlace_in HI4.out.1 to)
      have HBL4 := Lib.hid hbl4
      have hbr4 := HI4.out.1.blk.lt
      clear ho4 hb4 hc4 Hcut hbl4
      go_wp2_with fail
      refine Hpl.out.mono ?_
      rintro e w5 ⟨r, rfl, hp, rfl⟩
      rcases hp with ⟨rfl, hg⟩ | ⟨j, hj, rfl, hje⟩
      · have HI5 := Lib.hid (show RefIn w4 (fun k => F k ∨ vl4.ownBlock = some k) br vl4 vk2 st2 nf2 { Dk.ticked d with files := del (del d.files name.data.toList) to.data.toList } from by
          rw [del_none hg]; exact HI4.out.1)
        have HG5 := Lib.hid (show Grow F (fun k => F k ∨ vl4.ownBlock = some k) w2 w4 from Grow.trans (Grow.same Hb3.out) HI4.out.2)
        have hbl5 := HBL4.out
        clear hg
        have Hlay := Lib.hid (refLay_in HI5.out to s t (get_del_same _ _))
        have HB5 := Lib.hid hbl5
        have x0 := hbl5.cell 0
        have x1 := hbl5.cell 1
        have x2 := hbl5.cell 2
        simp at x0 x1 x2
        clear hbl5
        go_wp2_with fail
        refine Hlay.out.mono ?_
        rintro e w6 ⟨rfl, vl6, ho6, hb6, hc6⟩
        have hok := Hok.out
        rw [Heq.out, change_made Hpos.out] at hok
        have H6 := Lib.hid (HI5.out.newRow (m := put (del d.files name.data.toList) to.data.toList d.files[i].2) (by rw [Hf.out]; exact ho6) hb6 hc6 hok)
        clear ho6 hb6 hc6 hok Hlay x0 x1 x2
        go_wp2_with fail
        go_ret
        refine ⟨0, rfl, ?_⟩
        rw [Heq.out, change_made Hpos.out]
        exact ⟨rfl, _, ⟨br, _, vk2, st2, nf2, rfl, H6.out.1, HF2.out⟩, (Grow.trans ⟨HC2.out, fun _ e => .inl e⟩ HG5.out).trans H6.out.2⟩
      · have q : decide ((0 : Int) ≤ (j : Int)) = true := decide_eq_true (by omega)
        have Hpl2 := Lib.hid (refPlace_in HI4.out.1 to)
        have Hje := Lib.hid hje
        have Hj := Lib.hid hj
        clear hje
        go_wp2_with fail
        refine Hpl2.out.mono ?_
        rintro e w5 ⟨r, rfl, hp, rfl⟩
        rcases hp with ⟨rfl, hg⟩ | ⟨j2, hj2, rfl, hje2⟩
        · have := place_get HI4.out.1.ok.rising Hj.out Hje.out
          rw [hg] at this
          cases this
        · have Hcut2 := Lib.hid (HI4.out.1.cutm rfl hj2 hje2)
          have Hj2 := Lib.hid hj2
          clear hje2
          go_wp2_with fail
          refine Hcut2.out.mono ?_
          rintro e w5 ⟨rfl, vl5, ho5, hb5, hc5⟩
          have HIG5 := HI4.out.1.newRow ho5 hb5 hc5 (ok_del HI4.out.1.ok _ rfl)
          have HI5 := Lib.hid HIG5.1
          have HG5 := Lib.hid ((Grow.trans (Grow.same Hb3.out) HI4.out.2).trans HIG5.2)
          have hbl5 := HBL4.out.chg hc5 (fun e => by have := HI2.out.blk.lt; omega)
          clear HIG5 ho5 hb5 hc5 Hcut2
          have Hlay := Lib.hid (refLay_in HI5.out to s t (get_del_same _ _))
          have HB5 := Lib.hid hbl5
          have x0 := hbl5.cell 0
          have x1 := hbl5.cell 1
          have x2 := hbl5.cell 2
          simp at x0 x1 x2
          clear hbl5
          go_wp2_with fail
          refine Hlay.out.mono ?_
          rintro e w6 ⟨rfl, vl6, ho6, hb6, hc6⟩
          have hok := Hok.out
          rw [Heq.out, change_made Hpos.out] at hok
          have H6 := Lib.hid (HI5.out.newRow (m := put (del d.files name.data.toList) to.data.toList d.files[i].2) (by rw [Hf.out]; exact ho6) hb6 hc6 hok)
          clear ho6 hb6 hc6 hok Hlay x0 x1 x2
          go_wp2_with fail
          go_ret
          refine ⟨0, rfl, ?_⟩
          rw [Heq.out, change_made Hpos.out]
          exact ⟨rfl, _, ⟨br, _, vk2, st2, nf2, rfl, H6.out.1, HF2.out⟩, (Grow.trans ⟨HC2.out, fun _ e => .inl e⟩ HG5.out).trans H6.out.2⟩
end
end Go.Proofs.Ytnngdflamkdgaaa

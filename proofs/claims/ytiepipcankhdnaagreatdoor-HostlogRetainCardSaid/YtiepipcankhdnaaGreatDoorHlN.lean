/- A host's log opened in memory; made sure: walked. -/
import Derived.Test.YtiepipcankhdnaaGreatDoorHlL
namespace Go.Proofs.YtiepipcankhdnaaGreatDoor
set_option linter.unusedSimpArgs false
set_option linter.unusedVariables false
set_option maxRecDepth 100000
open Go.RowKit Go.Maps
open Dsk

/-- HS, with its rows at hand. -/
structure HO (w0 : World) (X H : Nat → Prop) (w : World) (v : Value) (d : Dk) (j : Nat) (h : Hl) (lv : Value) (vs : List SegV) : Prop where
  live : Live w0 X w v d
  blk : Blk w j 46 #[v, .int .i64 h.st, .bool h.lost, lv]
  rows : LogRows w0.heap.size w lv vs h.l
  inH : ∀ k, HIn j lv vs k → H k
  sub : ∀ k, H k → X k
  new : ∀ k, H k → w0.heap.size ≤ k ∧ k < w.heap.size
section
variable {w0 w w' : World} {X H S : Nat → Prop} {v lv : Value} {d d' : Dk} {j B : Nat} {h : Hl} {vs : List SegV} {l : List Sg}
theorem HO.hs (h0 : HO w0 X H w v d j h lv vs) : HS w0 X H w v d j h := ⟨h0.live, ⟨lv, vs, h0.blk, h0.rows, h0.inH⟩, h0.sub, h0.new⟩
theorem HS.open_ (h0 : HS w0 X H w v d j h) : ∃ lv vs, HO w0 X H w v d j h lv vs := by
  obtain ⟨live, ⟨lv, vs, hb, hr, hi⟩, sub, new⟩ := h0
  exact ⟨lv, vs, live, hb, hr, hi, sub, new⟩
theorem HO.chg (h0 : HO w0 X H w v d j h lv vs) (x : Chg S w w') (hl : Live w0 X w' v d') (hS : ∀ k, H k → ¬ S k) : HO w0 X H w' v d' j h lv vs :=
  ⟨hl, h0.blk.chg x (hS j (h0.inH j (.inl rfl))), h0.rows.chg x fun k hk => hS k (h0.inH k (.inr hk)), h0.inH, h0.sub, fun k hk => ⟨(h0.new k hk).1, Nat.lt_of_lt_of_le (h0.new k hk).2 x.size⟩⟩
theorem HO.below (h0 : HO w0 X H w v d j h lv vs) (x : Below w.heap.size w w') : HO w0 X H w' v d j h lv vs := h0.chg (S := fun _ => False) (Chg.of_below x) (h0.live.keep x) fun _ _ e => e
theorem HO.turn (h0 : HO w0 X H w v d j h lv vs) (hl : Live w0 X w' v d') (x : Keeps X w w') : HO w0 X H w' v d' j h lv vs := h0.chg (show Chg (fun k => ¬ X k) w w' from x) hl fun k hk e => e (h0.sub k hk)
theorem HO.ne (h0 : HO w0 X H w v d j h lv vs) : ∀ k, lv.ownBlock = some k ∨ k ∈ blks vs → k ≠ j := by
  have hb := h0.blk
  rintro k hk rfl
  rcases hk with hk | hk
  · rcases h0.rows.row.2 with ⟨e, _⟩ | ⟨g, cap, cur, e, _, hh, _⟩
    · rw [e] at hk; cases hk
    · rw [e] at hk
      injection hk with hk
      have hk : g = k := hk
      subst hk
      unfold Blk at hb
      rw [hb] at hh
      injection hh with hh
      injection hh with _ hh _
      exact absurd hh (by decide)
  · obtain ⟨i, hi2, hk⟩ := mem_blks.1 hk
    have hs := h0.rows.each i hi2 (h0.rows.len ▸ hi2)
    rcases hk with hk | hk
    · rcases hs.spans.2 with ⟨e, _⟩ | ⟨g, cap, cur, e, _, hh, _⟩
      · rw [e] at hk; cases hk
      · rw [e] at hk
        injection hk with hk
        have hk : g = k := hk
        subst hk
        unfold Blk at hb
        rw [hb] at hh
        injection hh with hh
        injection hh with _ hh _
        exact absurd hh (by decide)
    · rcases hs.ends.2 with ⟨e, _⟩ | ⟨g, cap, cur, e, _, hh, _⟩
      · rw [e] at hk; cases hk
      · rw [e] at hk
        injection hk with hk
        have hk : g = k := hk
        subst hk
        unfold Blk at hb
        rw [hb] at hh
        injection hh with hh
        injection hh with _ hh _
        exact absurd hh (by decide)
theorem HO.told (h0 : HO w0 X H w v d j h lv vs) (b : Bool) : HO w0 X H (w.setCell ⟨j, 2, none⟩ (.bool b)) v d j { h with lost := b } lv vs ∧ HK X H w (w.setCell ⟨j, 2, none⟩ (.bool b)) := by
  have hc : Chg (fun k => k = j) w (w.setCell ⟨j, 2, none⟩ (.bool b)) := (Chg.refl (fun k => k = j) w).setCell (p := ⟨j, 2, none⟩) (fun _ => rfl) _
  have hj := h0.inH j (.inl rfl)
  refine ⟨⟨h0.live.chg hc (fun k e => by have e : k = j := e; subst e; exact ⟨h0.sub _ hj, (h0.new _ hj).1⟩), h0.blk.set 2 _, h0.rows.chg hc h0.ne, h0.inH, h0.sub, fun k hk => ⟨(h0.new k hk).1, Nat.lt_of_lt_of_le (h0.new k hk).2 hc.size⟩⟩, Chg.mono hc fun k _ e => .inr (by have e : k = j := e; subst e; exact hj)⟩
theorem HO.cells (h0 : HO w0 X H w v d j h lv vs) {g n c : Nat} (hlv : lv = .slice (some ⟨g, 0, none⟩) n c) (i : Nat) (hi : i < vs.length) :
    w.cell? ⟨j, 0, none⟩ = some v ∧ w.cell? ⟨g, i * 3, none⟩ = some (.int .i64 vs[i].first) ∧ w.cell? ⟨g, i * 3 + 1, none⟩ = some vs[i].sv ∧ w.cell? ⟨g, i * 3 + 2, none⟩ = some vs[i].ev := by
  obtain ⟨g', c', hlv', _, _, _, hcs⟩ := h0.rows.row.at_ segRow_len i hi
  rw [hlv] at hlv'
  injection hlv' with e1 _ _
  injection e1 with e1
  injection e1 with e1 _ _
  subst e1
  exact ⟨h0.blk.cell 0, (hcs 0 _ rfl).1, (hcs 1 _ rfl).1, (hcs 2 _ rfl).1⟩
theorem lastPtr_nil (lv : Value) : lastPtr lv 0 = .pointer none := by
  cases lv with
  | slice a _ _ => cases a <;> rfl
  | _ => rfl
set_option maxHeartbeats 1000000 in
theorem hdoes_at (h0 : HO w0 X H w v d j h lv vs) (r : Int) :
    Calls Tryz.prog 47 #[.pointer (some ⟨j, 0, none⟩), .int .i64 r] w fun e w' => e = .returned (.int .i64 r) ∧ HO w0 X H w' v d j (h.told r) lv vs ∧ HK X H w w' := by
  obtain ⟨_, _, c2, _⟩ := blk4 h0.blk
  have f2 := h0.blk.free 2
  obtain ⟨b, hbv⟩ : ∃ b, b = (h.lost || (r != 0 && r != 50)) := ⟨_, rfl⟩
  have hfin : HO w0 X H (w.setCell ⟨j, 2, none⟩ (.bool b)) v d j (h.told r) lv vs ∧ HK X H w (w.setCell ⟨j, 2, none⟩ (.bool b)) := by
    unfold Hl.told
    rw [← hbv]
    exact h0.told b
  have HF := Lib.hid hfin
  obtain ⟨lost, hl⟩ : ∃ lost, lost = h.lost := ⟨_, rfl⟩
  rw [← hl] at c2 hbv
  have HBV := Lib.hid hbv
  clear hfin h0 hl hbv
  cases lost with
  | true =>
    have hb2 : b = true := HBV.out
    subst hb2
    go_enter Tryz.func47, Tryz.ntmps47
    go_wp2_with fail
    go_ret
    exact ⟨rfl, HF.out⟩
  | false =>
    by_cases h1 : r = 0
    · subst h1
      have hb2 : b = false := HBV.out
      subst hb2
      go_enter Tryz.func47, Tryz.ntmps47
      go_wp2_with fail
      go_ret
      exact ⟨rfl, HF.out⟩
    · have t1 : (r == 0) = false := beq_eq_false_iff_ne.2 h1
      by_cases h2 : r = 50
      · subst h2
        have hb2 : b = false := HBV.out
        subst hb2
        go_enter Tryz.func47, Tryz.ntmps47
        go_wp2_with fail
        go_ret
        exact ⟨rfl, HF.out⟩
      · have t2 : (r == 50) = false := beq_eq_false_iff_ne.2 h2
        have hb2 : b = (r != 0 && r != 50) := HBV.out
        subst hb2
        go_enter Tryz.func47, Tryz.ntmps47
        go_wp2_with fail
        go_ret
        exact ⟨rfl, HF.out⟩
/-- The last segment, with what a walk reads of it. -/
theorem HO.last (h0 : HO w0 X H w v d j h lv vs) {init : List Sg} {a : Sg} (hl : h.l = init ++ [a]) : ∃ g c sx sc ex ec, lv = .slice (some ⟨g, 0, none⟩) (init.length + 1) c ∧ lastPtr lv h.l.length = .pointer (some ⟨g, init.length * 3, none⟩) ∧
    OwnSp w w0.heap.size (.slice sx a.spans.length sc) a.spans ∧ OwnI w w0.heap.size (.slice ex a.spans.length ec) (sgEnds a.spans) ∧ ∃ hi : init.length < vs.length, vs[init.length] = ⟨a.first, .slice sx a.spans.length sc, .slice ex a.spans.length ec⟩ := by
  have hlen : h.l.length = init.length + 1 := by rw [hl]; simp
  obtain ⟨g, c, sx, sc, ex, ec, hlv, hc, hs, hi, e1, e2⟩ := h0.rows.seg init.length (by omega)
  have ea : h.l[init.length]'(by omega) = a := by simp [hl]
  have hf := (h0.rows.each init.length hi (by omega)).first
  rw [ea] at hs e1 e2 hf
  rw [hlen] at hlv ⊢
  refine ⟨g, c, sx, sc, ex, ec, hlv, by rw [hlv]; rfl, hs.spans, hs.ends, hi, ?_⟩
  cases hv : vs[init.length] with
  | mk f s e =>
    rw [hv] at e1 e2 hf
    simp only at e1 e2 hf
    rw [e1, e2, hf]
set_option maxHeartbeats 4000000 in
theorem hsync_any (h0 : HS w0 X H w v d j h) (hrun : h.runs d) (he : LEnv w0) (hbd : SgsBnd h.l) :
    Calls Tryz.prog 14 #[.pointer (some ⟨j, 0, none⟩)] w fun e w' => e = .returned (.int .i64 (syncP d h).1) ∧ HS w0 X H w' v (syncP d h).2.2 j (syncP d h).2.1 ∧ HK X H w w' := by
  have HR := Lib.hid (hruns_any h0)
  rw [if_pos hrun] at HR
  obtain ⟨lv, vs, ho⟩ := h0.open_
  have HH := Lib.hid ho
  have HL := Lib.hid (fun (W : World) (hW : Below w.heap.size w W) => hend_any (ho.below hW).blk (ho.below hW).rows hbd.many)
  obtain ⟨bd, rfl⟩ := h0.ptr
  rcases List.eq_nil_or_concat h.l with hl | ⟨init, a, hl⟩
  · have hq : syncP d h = (0, h, d) := by unfold syncP; rw [hl]; rfl
    rw [hq]
    rw [hl] at HL
    have e0 : lastPtr lv ([] : List Sg).length = .pointer none := lastPtr_nil lv
    rw [e0] at HL
    clear h0 hrun he hbd ho hl hq e0
    go_enter Tryz.func14, Tryz.ntmps14
    go_wp2_with fail
    refine HR.out.mono ?_
    rintro e w1 ⟨rfl, hb1⟩
    have HB := Lib.hid hb1
    clear hb1
    go_wp2_with fail
    refine (HL.out w1 HB.out).mono ?_
    rintro e w2 ⟨rfl, hb2⟩
    have HB2 := Lib.hid (HB.out.trans (hb2.mono HB.out.size))
    clear hb2
    go_wp2_with fail
    go_ret
    exact ⟨rfl, (HH.out.below HB2.out).hs, HK.below HB2.out⟩
  · rw [List.concat_eq_append] at hl
    have hq : syncP d h = ((d.sync (ln a.first)).1, h.told (d.sync (ln a.first)).1, (d.sync (ln a.first)).2) := by unfold syncP; rw [hl, getLast_snoc]
    rw [hq]
    obtain ⟨g, c, sx, sc, ex, ec, hlv, hlp, _, _, hi, hvs⟩ := ho.last hl
    rw [hlp] at HL
    have hf9 := hbd.first a (by rw [hl]; simp)
    have HNM := Lib.hid (fun (W : World) (hW : Below w0.heap.size w0 W) => segName_any (he.below hW) hf9 sx ex a.spans.length sc a.spans.length ec)
    unfold segVal at HNM
    obtain ⟨z, hz⟩ : ∃ z, z = d.sync (ln a.first) := ⟨_, rfl⟩
    obtain ⟨r, d1⟩ := z
    rw [← hz]
    have HSY := Lib.hid (fun (W : World) (hW : Live w0 X W (.pointer (some ⟨bd, 0, none⟩)) d) => hW.syncK (lnB a.first) (lnB_data _) hz.symm (by have := lnB_size hf9; omega))
    have HTC := Lib.hid (fun (W : World) (D : Dk) (hh : Hl) (x : HO w0 X H W (.pointer (some ⟨bd, 0, none⟩)) D j hh lv vs) => by
      have := x.cells hlv init.length hi
      rw [hvs] at this
      exact this)
    obtain ⟨n, hn⟩ : ∃ n, n = init.length := ⟨_, rfl⟩
    obtain ⟨fn, hfn⟩ : ∃ fn, fn = a.first := ⟨_, rfl⟩
    obtain ⟨sn, hsn⟩ : ∃ sn, sn = a.spans.length := ⟨_, rfl⟩
    simp only [← hn, ← hfn, ← hsn] at HL HNM HSY HTC
    clear h0 hrun he hbd ho hl hq hlv hlp hvs hi hz hn hfn hsn hf9
    go_enter Tryz.func14, Tryz.ntmps14
    go_wp2_with fail
    refine HR.out.mono ?_
    rintro e w1 ⟨rfl, hb1⟩
    have HB := Lib.hid hb1
    clear hb1
    go_wp2_with fail
    refine (HL.out w1 HB.out).mono ?_
    rintro e w2 ⟨rfl, hb2⟩
    have HO2 := Lib.hid (HH.out.below (HB.out.trans (hb2.mono HB.out.size)))
    have HC2 := Lib.hid (HK.below (X := X) (H := H) (HB.out.trans (hb2.mono HB.out.size)))
    clear hb2
    go_wp2_with fail
    refine wp_region_two (T := fun W => W.cell? ⟨j, 0, none⟩ = some (.pointer (some ⟨bd, 0, none⟩)) ∧ W.cell? ⟨g, n * 3, none⟩ = some (.int .i64 fn) ∧ W.cell? ⟨g, n * 3 + 1, none⟩ = some (.slice sx sn sc) ∧ W.cell? ⟨g, n * 3 + 2, none⟩ = some (.slice ex sn ec)) (S := fun _ => True) (n := 99) (by kernel_rfl) ?_
    obtain ⟨y1, hy1⟩ : ∃ y1, y1 = (w2).drew := ⟨_, rfl⟩
    rw [← hy1]
    have hby : Below (w2).heap.size w2 y1 := by rw [hy1]; exact (Below.refl _ _).drew
    have HOy1 := Lib.hid (HO.below HO2.out hby)
    have HCy1 := Lib.hid (HK.trans HC2.out (HK.below hby))
    have hS : True := trivial
    have hT := HTC.out y1 _ _ HOy1.out
    clear hy1 hby
    refine two_takeT 0 (some 16) (v := ?_) rfl rfl (by kernel_rfl) (by kernel_rfl) (by kernel_rfl) (by decide) (fun _ _ _ h => h) (Or.inl ⟨by rfl, ?hy0⟩) hT hS ?_
    case hy0 => (intro w' hT'; (try unfold T8 at hT'); (try unfold T9 at hT'); (try unfold S8 at hT'); go_simp; (try with_reducible rfl))
    try simp only [Act.put, List.setIfInBounds_toArray, List.set_cons_zero, List.set_cons_succ]
    refine two_takeT 1 (some 17) (v := ?_) rfl rfl (by kernel_rfl) (by kernel_rfl) (by kernel_rfl) (by decide) (fun _ _ _ h => h) (Or.inl ⟨by rfl, ?hy1⟩) hT hS ?_
    case hy1 => (intro w' hT'; (try unfold T8 at hT'); (try unfold T9 at hT'); (try unfold S8 at hT'); go_simp; (try with_reducible rfl))
    try simp only [Act.put, List.setIfInBounds_toArray, List.set_cons_zero, List.set_cons_succ]
    refine two_takeT 2 (some 18) (v := ?_) rfl rfl (by kernel_rfl) (by kernel_rfl) (by kernel_rfl) (by decide) (fun _ _ _ h => h) (Or.inl ⟨by rfl, ?hy2⟩) hT hS ?_
    case hy2 => (intro w' hT'; (try unfold T8 at hT'); (try unfold T9 at hT'); (try unfold S8 at hT'); go_simp; (try with_reducible rfl))
    try simp only [Act.put, List.setIfInBounds_toArray, List.set_cons_zero, List.set_cons_succ]
    refine two_takeT 3 (some 19) (v := ?_) rfl rfl (by kernel_rfl) (by kernel_rfl) (by kernel_rfl) (by decide) (fun _ _ _ h => h) (Or.inl ⟨by rfl, ?hy3⟩) hT hS ?_
    case hy3 => (intro w' hT'; (try unfold T8 at hT'); (try unfold T9 at hT'); (try unfold S8 at hT'); go_simp; (try with_reducible rfl))
    try simp only [Act.put, List.setIfInBounds_toArray, List.set_cons_zero, List.set_cons_succ]
    refine two_takeT 4 (some 20) (v := ?_) rfl rfl (by kernel_rfl) (by kernel_rfl) (by kernel_rfl) (by decide) (fun _ _ _ h => h) (Or.inl ⟨by rfl, ?hy4⟩) hT hS ?_
    case hy4 => (intro w' hT'; (try unfold T8 at hT'); (try unfold T9 at hT'); (try unfold S8 at hT'); go_simp; (try with_reducible rfl))
    try simp only [Act.put, List.setIfInBounds_toArray, List.set_cons_zero, List.set_cons_succ]
    refine two_takeT 5 (some 21) (v := ?_) rfl rfl (by kernel_rfl) (by kernel_rfl) (by kernel_rfl) (by decide) (fun _ _ _ h => h) (Or.inl ⟨by rfl, ?hy5⟩) hT hS ?_
    case hy5 => (intro w' hT'; (try unfold T8 at hT'); (try unfold T9 at hT'); (try unfold S8 at hT'); go_simp; (try with_reducible rfl))
    try simp only [Act.put, List.setIfInBounds_toArray, List.set_cons_zero, List.set_cons_succ]
    refine two_takeT 6 (some 22) (v := ?_) rfl rfl (by kernel_rfl) (by kernel_rfl) (by kernel_rfl) (by decide) (fun _ _ _ h => h) (Or.inl ⟨by rfl, ?hy6⟩) hT hS ?_
    case hy6 => (intro w' hT'; (try unfold T8 at hT'); (try unfold T9 at hT'); (try unfold S8 at hT'); go_simp; (try with_reducible rfl))
    try simp only [Act.put, List.setIfInBounds_toArray, List.set_cons_zero, List.set_cons_succ]
    refine two_takeT 7 (some 23) (v := ?_) rfl rfl (by kernel_rfl) (by kernel_rfl) (by kernel_rfl) (by decide) (fun _ _ _ h => h) (Or.inl ⟨by rfl, ?hy7⟩) hT hS ?_
    case hy7 => (intro w' hT'; (try unfold T8 at hT'); (try unfold T9 at hT'); (try unfold S8 at hT'); go_simp; (try with_reducible rfl))
    try simp only [Act.put, List.setIfInBounds_toArray, List.set_cons_zero, List.set_cons_succ]
    refine two_one 8 rfl (by kernel_rfl) ?_
    intro K hK
    go_simp
    refine (HNM.out y1 (HOy1.out.live.below)).mono ?_
    rintro e y2 ⟨rfl, hbz⟩
    have HOy2 := Lib.hid (HO.below HOy1.out hbz)
    have HCy2 := Lib.hid (HK.trans HCy1.out (HK.below hbz))
    have hT1 := HTC.out y2 _ _ HOy2.out
    refine hK.out _ _ hT1 (fun _ _ => hS) ?_
    clear hK K hT hbz
    have hT := hT1
    clear hT1
    try simp only [Act.put, List.setIfInBounds_toArray, List.set_cons_zero, List.set_cons_succ]
    refine two_one 9 rfl (by kernel_rfl) ?_
    intro K hK
    go_simp
    refine (HSY.out y2 HOy2.out.live).mono ?_
    rintro e y3 ⟨rfl, hlz, hkz⟩
    have HOy3 := Lib.hid (HO.turn HOy2.out hlz hkz)
    have HCy3 := Lib.hid (HK.trans HCy2.out (HK.keeps hkz))
    have hT1 := HTC.out y3 _ _ HOy3.out
    refine hK.out _ _ hT1 (fun _ _ => hS) ?_
    clear hK K hT hlz hkz
    have hT := hT1
    clear hT1
    try simp only [Act.put, List.setIfInBounds_toArray, List.set_cons_zero, List.set_cons_succ]
    refine two_one 10 rfl (by kernel_rfl) ?_
    intro K hK
    go_simp
    refine (hdoes_at HOy3.out _).mono ?_
    rintro e y4 ⟨rfl, hoz, hkz⟩
    have HOy4 := Lib.hid hoz
    have HCy4 := Lib.hid (HK.trans HCy3.out hkz)
    have hT1 := HTC.out y4 _ _ HOy4.out
    refine hK.out _ _ hT1 (fun _ _ => hS) ?_
    clear hK K hT hoz hkz
    have hT := hT1
    clear hT1
    try simp only [Act.put, List.setIfInBounds_toArray, List.set_cons_zero, List.set_cons_succ]
    refine two_takeT 11 (some 2) (v := ?_) rfl rfl (by kernel_rfl) (by kernel_rfl) (by kernel_rfl) (by decide) (fun _ _ _ h => h) (Or.inl ⟨by rfl, ?hy11⟩) hT hS ?_
    case hy11 => (intro w' hT'; (try unfold T8 at hT'); (try unfold T9 at hT'); (try unfold S8 at hT'); go_simp; (try with_reducible rfl))
    try simp only [Act.put, List.setIfInBounds_toArray, List.set_cons_zero, List.set_cons_succ]
    refine two_done (by kernel_rfl) ?_ _
    clear hT hS
    go_wp2_with fail
    go_ret
    exact ⟨rfl, HOy4.out.hs, HCy4.out⟩
end
end Go.Proofs.YtiepipcankhdnaaGreatDoor

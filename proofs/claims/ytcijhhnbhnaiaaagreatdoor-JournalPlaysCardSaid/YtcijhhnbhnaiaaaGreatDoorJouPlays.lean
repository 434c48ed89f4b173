/- 'JournalPlays', walked. -/
import Derived.Test.YtcijhhnbhnaiaaaGreatDoorJouY
namespace Go.Proofs.YtcijhhnbhnaiaaaGreatDoor
set_option linter.unusedSimpArgs false
set_option linter.unusedVariables false
set_option maxRecDepth 100000
open Go.RowKit Go.Maps
open Dsk

/-- What holds behind so many acts. -/
def PlaysInv (w0 wr : World) (vd : Value) (q k : Nat) (vj vfrom : Value) : Prop := ∃ lots d Y j st, ∃ (num : Nat), ∃ u vals, vj = .pointer (some ⟨j, 0, none⟩) ∧ vfrom = .int .i64 num ∧ JS w0 Y wr vd d j st false num ∧ RefJ w0.heap.size wr q num u vals lots ∧ (∀ b, RIn q u vals b → Y b ∧ b ≠ j) ∧
  d.off = false ∧ d.starts = st ∧ JF num lots d.files ∧ LotsOk lots k ∧ d.fail = none ∧ d.room = 1048576 ∧ 1 ≤ num ∧ num ≤ 1 + 3 * k ∧ lots.length ≤ k
theorem refApp_lots {d : Dk} {n : Nat} {l : List Jou.Cell} {lots : List (List Jou.Cell)} {k : Nat} (h20 : Lot20 l) (hroom : d.room = 1048576) (hok : LotsOk lots k) (hk : k ≤ 50) (hn : n ≤ 2147483647) (hoff : d.off = false) (hf : JF n lots d.files) (hfail : d.fail = none) :
    ∃ d', jApp d n l = ((refApp lots l).1, false, d') ∧ d'.off = false ∧ d'.starts = d.starts ∧ JF n (refApp lots l).2 d'.files ∧ d'.fail = none ∧ d'.room = 1048576 ∧ LotsOk (refApp lots l).2 (k + 1) ∧ (refApp lots l).2.length ≤ lots.length + 1 := by
  unfold refApp
  by_cases hm : ∀ c ∈ l, Jou.May c
  · rw [if_pos hm]
    by_cases h0 : l = []
    · rw [if_pos h0]
      refine ⟨d, ?_, hoff, rfl, hf, hfail, hroom, hok.next, Nat.le_succ _⟩
      subst h0
      unfold jApp encQ
      simp
    · rw [if_neg h0]
      have h1 := h20.ok hm
      have h2 := enc_le h1.may
      have h3 := h20.len
      have hL : Lays l d.room (jText lots).length := ⟨hm, h0, h1.short, by rw [hroom, Frm.frame_length]; have := hok.text; omega⟩
      rcases jApp_lays hn hoff hf hL (fun m e => by rw [hfail] at e; cases e) with ⟨d', e1, e2, e3, e4, _, e5, e6⟩ | ⟨e0, _⟩
      · exact ⟨d', e1, e2, e6, e3, e4 hfail, by rw [e5, hroom], hok.snoc h20 hm, by rw [List.length_append]; simp⟩
      · exact absurd hfail e0
  · rw [if_neg hm]
    refine ⟨d, ?_, hoff, rfl, hf, hfail, hroom, hok.next, Nat.le_succ _⟩
    have e1 : encQ l = ([], 2) := by unfold encQ; exact if_neg hm
    unfold jApp
    rw [e1, if_pos (by decide)]
section
variable {w0 w w' : World} {X Y S : Nat → Prop} {v : Value} {d d' : Dk} {j n : Nat} {st num : Int} {bad : Bool} {lots : List (List Jou.Cell)} {l : List Jou.Cell} {lv : Value}
theorem plays_init (hj : JS w0 Y w v d j 0 false 1) (hoff : d.off = false) (hst : d.starts = 0) (hF : d.files = []) (hfail : d.fail = none) (hroom : d.room = 1048576) :
    PlaysInv w0 (w.alloc (.cells #[.int .i64 1, .slice none 0 0] 36 (0, 0))) v w.heap.size 0 (.pointer (some ⟨j, 0, none⟩)) (.int .i64 1) := by
  obtain ⟨wa, hwa⟩ : ∃ wa, wa = w.alloc (.cells #[.int .i64 1, .slice none 0 0] 36 (0, 0)) := ⟨_, rfl⟩
  rw [← hwa]
  have hz := hj.live.size
  have ha : Below w.heap.size w wa := by rw [hwa]; exact (Below.refl _ _).alloc (Nat.le_refl _) _
  have hb : Blk wa w.heap.size 36 #[.int .i64 1, .slice none 0 0] := by rw [hwa]; exact Blk.alloc_new _ _ _
  refine ⟨[], d, Also Y w wa, j, 0, 1, .slice none 0 0, [], rfl, rfl, hj.add ha, ⟨hb, World.ownsRow_nil _ _ _ _, rfl, fun i hi => absurd hi (by simp), by simp [Value.ownBlock], fun i hi => absurd hi (by simp), hz⟩, fun b hb2 => ?_, hoff, hst, .inl ⟨hF, rfl⟩, LotsOk.nil, hfail, hroom, by omega, by omega, by simp⟩
  rcases hb2 with rfl | hb2 | ⟨i, hi, _⟩
  · exact ⟨.inr ⟨Nat.le_refl _, hb.lt⟩, by have := hj.blk.lt; omega⟩
  · simp [Value.ownBlock] at hb2
  · simp at hi
theorem LotsOk.nilk (k : Nat) : LotsOk [] k := ⟨(fun _ h => by cases h), by simp [jText], by simp⟩
theorem JS.chgY (h : JS w0 X w v d j st bad num) (x : Chg S w w') (hX : ∀ k, S k → X k ∧ w0.heap.size ≤ k ∧ k ≠ j) : JS w0 X w' v d j st bad num :=
  ⟨h.live.chg x (fun k hk => ⟨(hX k hk).1, (hX k hk).2.1⟩), h.blk.chg x (fun e => (hX j e).2.2 rfl), h.inX, h.new⟩
theorem RefJ.setNum {B q : Nat} {m : Int} {u : Value} {vals : List Value} {ls : List (List Jou.Cell)} (h : RefJ B w q m u vals ls) : RefJ B (w.setCell ⟨q, 0, none⟩ (.int .i64 m)) q m u vals ls := by
  have x := put_wr w q 0 (.int .i64 m)
  refine ⟨h.blk.set 0 _, ownsRow_chg h.own x (fun k hk e => h.uq (by rw [hk, e])), h.len, fun i hi hi' => (h.each i hi hi').chg (Z := fun k => k ≠ q) (fun k hk => (h.inV i hi k hk).2.2.1) x (fun k hk e => hk e), h.uq,
    fun i hi k hk => ⟨(h.inV i hi k hk).1, Nat.lt_of_lt_of_le (h.inV i hi k hk).2.1 x.size, (h.inV i hi k hk).2.2⟩, h.qB⟩
/-- Begin with another file. -/
theorem jbegin_JF {num nw : Nat} (h : JS w0 X w v d j st false num) (hup : d.off = false) (hst : d.starts = st) (hn : NumOk w0 num) (hf : JF num lots d.files) (hfail : d.fail = none) (hlt : num < nw) (hm : nw ≤ 2147483647) :
    Calls Tryz.prog 14 #[.pointer (some ⟨j, 0, none⟩), .int .i64 nw] w fun e w' => e = .returned (.int .i64 0) ∧ JS w0 X w' v { d with files := [] } j st false nw ∧ JK X j w w' := by
  obtain ⟨room, starts, off, files, fail, keep⟩ := d
  simp only at hup hst hf hfail
  refine jbegin_ok (n := nw) h hup hst ⟨by omega, by omega⟩ (fun W _ hW => ?_)
  rcases hf with ⟨e, _⟩ | e
  · subst e
    refine (jclear_keep (ns := []) hW rfl (by simp) (fun n hn => by cases hn) nw (fun n hn => by cases hn)).mono ?_
    rintro e w' ⟨rfl, hb⟩
    exact ⟨rfl, hW.below hb, Keeps.below hb⟩
  · refine jclear_one (n := num) hW (by rw [show (Dk.mk room starts off files fail keep).files = files from rfl, e]; rfl) hn nw (by omega) ?_
    subst e
    subst hup
    subst hfail
    unfold Dk.remove
    simp only [Bool.false_eq_true, if_false, get_one, Dk.change]
    simp [Dsk.del]
end
set_option maxHeartbeats 16000000 in
theorem walkJournalPlays (x : Value × List JAct) (w : World) (h1 : RdJ w w.heap.size x.1 x.2 ∧ x.2.length ≤ maxLen) (htab : PowTab w) :
    Calls Tryz.prog 3 #[x.1] w fun e w' => e = .returned (.bool true) ∧ Below w.heap.size w w' := by
  obtain ⟨lv, l⟩ := x
  obtain ⟨hrd, hlm⟩ := h1
  simp only at hrd hlm ⊢
  have HBY := Lib.hid (beyondJ_any lv l _ 50 w hrd hlm)
  have HTAB := Lib.hid htab
  obtain ⟨lx, lc, rfl, hel⟩ := hrd
  have Hel := Lib.hid hel
  have HB0 := Lib.hid (Below.refl w.heap.size w)
  obtain ⟨n, hn⟩ : ∃ n, n = l.length := ⟨_, rfl⟩
  rw [← hn] at HBY
  rw [← hn]
  have Hn := Lib.hid hn
  clear hel hn htab
  go_enter Tryz.func3, Tryz.ntmps3
  go_wp2_with fail
  refine HBY.out.mono ?_
  rintro e w' ⟨⟨g, rfl, hg⟩, rfl⟩
  by_cases g1 : g = 1
  · subst g1
    clear hg
    go_wp2_with fail
    refine (jlives_any w).mono ?_
    rintro e wl ⟨rfl, hbl⟩
    have HBL := Lib.hid (Below.trans HB0.out (hbl.mono HB0.out.size))
    clear hbl
    go_wp2_with fail
    go_ret
    exact ⟨rfl, HBL.out⟩
  have t1 : (g == 1) = false := beq_eq_false_iff_ne.2 g1
  rw [t1]
  have HSM := Lib.hid (hg g1)
  clear hg g1 t1
  have hn50 : n ≤ 50 := by have := HSM.out.1; rw [← Hn.out] at this; omega
  go_wp2_with fail
  refine (live_new 1048576 w (by omega) (by omega)).mono ?_
  rintro e w1 ⟨v, rfl, hl1⟩
  obtain ⟨bd, rfl⟩ := hl1.ptr
  have HL1 := Lib.hid hl1
  clear hl1
  go_wp2_with fail
  refine (jopen_new (fr := 1) HL1.out rfl rfl (by decide)).mono ?_
  rintro e w2 ⟨j, Y, rfl, _, hj, _, _⟩
  have HI0 := Lib.hid (plays_init hj rfl rfl rfl rfl rfl)
  clear hj HL1
  obtain ⟨q, hq⟩ : ∃ q, q = w2.heap.size := ⟨_, rfl⟩
  go_wp2_with fail
  rw [← hq] at HI0 ⊢
  clear hq
  go_loopw [5, 9, 10, 11, 12, 13, 14, 15] (fun v5 v9 v10 _ _ _ _ _ wr => ∃ k : Nat, v10 = .int .i64 k ∧ k ≤ n ∧ PlaysInv w wr (.pointer (some ⟨bd, 0, none⟩)) q k v5 v9) (fun _ _ v10 _ _ _ _ _ _ => n - (intOf v10).toNat)
  case atStart => exact ⟨0, rfl, Nat.zero_le _, HI0.out⟩
  case round =>
    obtain ⟨k, rfl, hk, lots, d, Y2, j2, st, num, u, vals, rfl, rfl, hj, hr, hin, hoff, hst, hf, hok, hfail, hroom, hn1, hn2, hlk⟩ := hrel
    have HJ := Lib.hid hj
    have HR := Lib.hid hr
    have HINR := Lib.hid hin
    have HBR := Lib.hid hj.live.below
    have HD := Lib.hid (And.intro hoff (And.intro hst (And.intro hf (And.intro hfail hroom))))
    have HOK := Lib.hid hok
    have HNUM := Lib.hid (numOk_tab HTAB.out (n := num) hn1 (by omega))
    have HVL := Lib.hid (show vals.length ≤ 50 by rw [hr.len]; omega)
    have HLK := Lib.hid hlk
    have HN12 := Lib.hid (And.intro hn1 hn2)
    clear hj hr hin hoff hst hf hok hfail hroom hlk
    by_cases hlt : k < n
    · have hkl : k < l.length := by rw [← Hn.out]; exact hlt
      obtain ⟨ho, b, off, rfl, hb, hc⟩ := Hel.out k hkl
      have HO := Lib.hid ho
      have HBL := Lib.hid hb
      have HC := Lib.hid (fun (W : World) (hW : Below w.heap.size w W) => show W.cell? ⟨b, off + k * 4, none⟩ = some (.int .u8 l[k].kind) ∧ W.cell? ⟨b, off + k * 4 + 1, none⟩ = some l[k].cv ∧ W.cell? ⟨b, off + k * 4 + 2, none⟩ = some (.int .u8 l[k].more) ∧ W.cell? ⟨b, off + k * 4 + 3, none⟩ = some l[k].kv from by
        obtain ⟨h1, h2, h3, h4⟩ := (jact_load (b := b) (off := off + k * 4) (a := l[k]) (fun i hi => by rw [Nat.add_assoc]; exact hc i hi))
        exact ⟨(hW.cell (p := ⟨b, _, none⟩) hb).trans h1, (hW.cell (p := ⟨b, _, none⟩) hb).trans h2, (hW.cell (p := ⟨b, _, none⟩) hb).trans h3, (hW.cell (p := ⟨b, _, none⟩) hb).trans h4⟩)
      obtain ⟨cx, cc, hcv⟩ := ho.rd.form
      rw [hcv] at HC
      obtain ⟨kx, kc, hkv⟩ := ho.kv.formJ
      rw [hkv] at HC
      obtain ⟨lk, hlk⟩ : ∃ lk, lk = l[k].cells := ⟨_, rfl⟩
      obtain ⟨kk, hkk⟩ : ∃ kk, kk = l[k].keep := ⟨_, rfl⟩
      obtain ⟨kd, hkd⟩ : ∃ kd, kd = l[k].kind := ⟨_, rfl⟩
      obtain ⟨mo, hmo⟩ : ∃ mo, mo = l[k].more := ⟨_, rfl⟩
      have hkd2 : kd < 256 := by rw [hkd]; exact ho.kind
      have hmo2 : mo < 256 := by rw [hmo]; exact ho.more
      have HRD := Lib.hid (fun (W : World) (hW : Below w.heap.size w W) => show RdC W (.slice cx lk.length cc) lk from by
        have h2 := ho.rd.below hW
        rw [hcv] at h2
        rw [hlk]
        exact h2)
      have HRK := Lib.hid (fun (W : World) (hW : Below w.heap.size w W) => show KeepR W (fun g => w.heap.size ≤ g) (.slice kx kk.length kc) kk from by
        have h2 := ho.kv.chg (T := fun _ => False) (Chg.of_below hW) (fun _ e => e.elim)
        rw [hkv] at h2
        rw [hkk]
        exact h2)
      have H20 := Lib.hid (show Lot20 lk from by rw [hlk]; exact Lot20.of (HSM.out.2 k hkl).1 ho.bnd)
      have HK20 := Lib.hid (show kk.length ≤ 20 from by rw [hkk]; exact (HSM.out.2 k hkl).2)
      rw [← hlk, ← hkk, ← hkd, ← hmo] at HC
      obtain ⟨ln, hln⟩ : ∃ ln, ln = lk.length := ⟨_, rfl⟩
      obtain ⟨kn, hkn⟩ : ∃ kn, kn = kk.length := ⟨_, rfl⟩
      rw [← hln, ← hkn] at HC
      rw [← hln] at HRD
      rw [← hkn] at HRK
      have HLN := Lib.hid hln
      have HKN := Lib.hid hkn
      obtain ⟨c0, _⟩ := HC.out wr HBR.out
      obtain ⟨k5, hk5⟩ : ∃ k5, k5 = kd % 5 := ⟨_, rfl⟩
      have hk5t : (kd : Int).tmod 5 = (k5 : Int) := by rw [Int.tmod_eq_emod_of_nonneg (by omega), hk5]; omega
      have hk55 : k5 < 5 := by omega
      clear hc ho hcv hkv hlk hkk hkd hmo hln hkn hb hk5
      by_cases k3 : k5 = 3
      · subst k3
        go_wp2_with fail
        have h3 := (HC.out wr HBR.out).2.2.1
        have q0 := HR.out.blk.cell 0
        simp at q0
        obtain ⟨m4, hm4⟩ : ∃ m4, m4 = mo % 4 := ⟨_, rfl⟩
        have hm4t : (mo : Int).tmod 4 = (m4 : Int) := by rw [Int.tmod_eq_emod_of_nonneg (by omega), hm4]; omega
        have hm44 : m4 < 4 := by omega
        obtain ⟨nw, hnw⟩ : ∃ nw, nw = num + m4 := ⟨_, rfl⟩
        have hnwi : (num : Int) + (m4 : Int) = (nw : Int) := by omega
        have hnum := HN12.out.2
        have hwnw : IntKind.i64.wrap (nw : Int) = nw := by rw [IntKind.wrap_i64]; omega
        have HNW := Lib.hid hnw
        have hnwb : nw ≤ 200 := by omega
        clear hm4 hnw c0
        go_quiet (fail)
        obtain ⟨y2, hy2⟩ : ∃ y, y = wr.drewN nq := ⟨_, rfl⟩
        rw [← hy2]
        have hby : Below wr.heap.size wr y2 := by rw [hy2]; exact below_drewN _ _
        have HJ2 := Lib.hid (HJ.out.below hby)
        have HR2 := Lib.hid (HR.out.below hby)
        clear hy2 hby h3 q0 hm4t hnwi hwnw
        go_wp2_with fail
        by_cases hm0 : m4 = 0
        · have hle : (nw : Int) ≤ num := by have := HNW.out; omega
          refine (refBegin_bad HR2.out nw hle).mono ?_
          rintro e w3 ⟨rfl, rfl⟩
          go_wp2_with fail
          refine (jbegin_bad HJ2.out HD.out.1 HD.out.2.1 nw (.inl hle)).mono ?_
          rintro e w4 ⟨rfl, hb4⟩
          have HJF := Lib.hid (HJ2.out.below hb4)
          have HRF := Lib.hid (HR2.out.below hb4)
          have HIN := HINR
          have HDF := HD
          have HOKF := Lib.hid HOK.out.next
          have HNF := Lib.hid (show 1 ≤ num ∧ num ≤ 1 + 3 * (k + 1) ∧ lots.length ≤ k + 1 from ⟨HN12.out.1, by omega, by have := HLK.out; omega⟩)
          clear hb4 hle hm0
          go_wp2_with fail
          obtain ⟨y0, hy0⟩ : ∃ y0, y0 = (w4).drew := ⟨_, rfl⟩
          have hby : Below (w4).heap.size w4 y0 := by rw [hy0]; exact (Below.refl _ _).drew
          have HJy0 := Lib.hid (HJF.out.below hby)
          have HRy0 := Lib.hid (HRF.out.below hby)
          have HY0 := Lib.hid hy0
          clear hby hy0
          refine wp_region_two (T := fun W => W.cell? ⟨q, 0, none⟩ = some (.int .i64 num)) (S := fun _ => True) (n := 99) (by kernel_rfl) ?_
          rw [← HY0.out]
          have hS : True := trivial
          have hT : y0.cell? ⟨q, 0, none⟩ = some (.int .i64 num) := HRy0.out.blk.cell 0
          refine two_takeT 0 (some 131) (v := ?_) rfl rfl (by kernel_rfl) (by kernel_rfl) (by kernel_rfl) (by decide) (fun _ _ _ h => h) (Or.inl ⟨by rfl, ?hy0⟩) hT hS ?_
          case hy0 => (intro w' hT'; (try unfold T8 at hT'); (try unfold T9 at hT'); (try unfold S8 at hT'); go_simp; (try with_reducible rfl))
          try simp only [Act.put, List.setIfInBounds_toArray, List.set_cons_zero, List.set_cons_succ]
          refine two_takeT 2 (some 133) (v := ?_) rfl rfl (by kernel_rfl) (by kernel_rfl) (by kernel_rfl) (by decide) (fun _ _ _ h => h) (Or.inl ⟨by rfl, ?hy2⟩) hT hS ?_
          case hy2 => (intro w' hT'; (try unfold T8 at hT'); (try unfold T9 at hT'); (try unfold S8 at hT'); go_simp; (try with_reducible rfl))
          try simp only [Act.put, List.setIfInBounds_toArray, List.set_cons_zero, List.set_cons_succ]
          refine two_takeT 3 (some 134) (v := ?_) rfl rfl (by kernel_rfl) (by kernel_rfl) (by kernel_rfl) (by decide) (fun _ _ _ h => h) (Or.inl ⟨by rfl, ?hy3⟩) hT hS ?_
          case hy3 => (intro w' hT'; (try unfold T8 at hT'); (try unfold T9 at hT'); (try unfold S8 at hT'); go_simp; (try with_reducible rfl))
          try simp only [Act.put, List.setIfInBounds_toArray, List.set_cons_zero, List.set_cons_succ]
          refine two_takeT 4 (some 135) (v := ?_) rfl rfl (by kernel_rfl) (by kernel_rfl) (by kernel_rfl) (by decide) (fun _ _ _ h => h) (Or.inl ⟨by rfl, ?hy4⟩) hT hS ?_
          case hy4 => (intro w' hT'; (try unfold T8 at hT'); (try unfold T9 at hT'); (try unfold S8 at hT'); go_simp; (try with_reducible rfl))
          try simp only [Act.put, List.setIfInBounds_toArray, List.set_cons_zero, List.set_cons_succ]
          refine two_takeT 5 (some 136) (v := ?_) rfl rfl (by kernel_rfl) (by kernel_rfl) (by kernel_rfl) (by decide) (fun _ _ _ h => h) (Or.inl ⟨by rfl, ?hy5⟩) hT hS ?_
          case hy5 => (intro w' hT'; (try unfold T8 at hT'); (try unfold T9 at hT'); (try unfold S8 at hT'); go_simp; (try with_reducible rfl))
          try simp only [Act.put, List.setIfInBounds_toArray, List.set_cons_zero, List.set_cons_succ]
          refine two_one 1 rfl (by kernel_rfl) ?_
          intro K hK
          go_simp
          refine (jnum_ok HJy0.out HDF.out.1 HDF.out.2.1).mono ?_
          rintro e y1 ⟨rfl, hb1⟩
          have HJy1 := Lib.hid (HJy0.out.below hb1)
          have HRy1 := Lib.hid (HRy0.out.below hb1)
          have hT1 : y1.cell? ⟨q, 0, none⟩ = some (.int .i64 num) := HRy1.out.blk.cell 0
          refine hK.out _ _ hT1 (fun _ _ => hS) ?_
          clear hK K hT hb1
          have hT := hT1
          clear hT1
          try simp only [Act.put, List.setIfInBounds_toArray, List.set_cons_zero, List.set_cons_succ]
          refine two_takeT 6 (some 137) (v := ?_) rfl rfl (by kernel_rfl) (by kernel_rfl) (by kernel_rfl) (by decide) (fun _ _ _ h => h) (Or.inl ⟨by rfl, ?hy6⟩) hT hS ?_
          case hy6 => (intro w' hT'; (try unfold T8 at hT'); (try unfold T9 at hT'); (try unfold S8 at hT'); go_simp; (try with_reducible rfl))
          try simp only [Act.put, List.setIfInBounds_toArray, List.set_cons_zero, List.set_cons_succ]
          refine two_done (by kernel_rfl) ?_ _
          clear hT hS
          go_wp2_with fail
          go_roundw
          case rel => exact ⟨k + 1, by go_num, by omega, _, _, _, _, _, num, _, _, rfl, rfl, HJy1.out, HRy1.out, HIN.out, HDF.out.1, HDF.out.2.1, HDF.out.2.2.1, HOKF.out, HDF.out.2.2.2.1, HDF.out.2.2.2.2, HNF.out.1, HNF.out.2.1, HNF.out.2.2⟩
          case measure => simp [intOf]; omega
        · have hlt2 : (num : Int) < nw := by have := HNW.out; omega
          refine (refBegin_ok HR2.out nw hlt2 (by omega) (by have := HVL.out; omega)).mono ?_
          rintro e w3 ⟨rfl, hr3, hch3⟩
          have HJ3 := Lib.hid (HJ2.out.chgY hch3 (fun g e => by
            have e2 : g = q := e
            subst e2
            exact ⟨(HINR.out g (.inl rfl)).1, HR2.out.qB, (HINR.out g (.inl rfl)).2⟩))
          have HR3 := Lib.hid hr3
          clear hr3 hch3
          go_wp2_with fail
          refine (jbegin_JF HJ3.out HD.out.1 HD.out.2.1 HNUM.out HD.out.2.2.1 HD.out.2.2.2.1 (by omega) (by omega)).mono ?_
          rintro e w4 ⟨rfl, hj4, hk4⟩
          have HJF := Lib.hid hj4
          have HIN := Lib.hid (show ∀ g, RIn q (.slice none 0 0) [] g → Y2 g ∧ g ≠ j2 from fun g hg => by
            rcases hg with rfl | hg | ⟨i, hi, _⟩
            · exact HINR.out g (.inl rfl)
            · simp [Value.ownBlock] at hg
            · simp at hi)
          have HRF := Lib.hid (HR3.out.chg hk4 (fun g hg e => e.elim (fun e => e (HIN.out g hg).1) (fun e => (HIN.out g hg).2 e)))
          have HDF := Lib.hid (show ({ d with files := [] } : Dk).off = false ∧ ({ d with files := [] } : Dk).starts = st ∧ JF nw [] ({ d with files := [] } : Dk).files ∧ ({ d with files := [] } : Dk).fail = none ∧ ({ d with files := [] } : Dk).room = 1048576 from ⟨HD.out.1, HD.out.2.1, .inl ⟨rfl, rfl⟩, HD.out.2.2.2.1, HD.out.2.2.2.2⟩)
          have HOKF := Lib.hid (LotsOk.nilk (k + 1))
          have HNF := Lib.hid (show 1 ≤ nw ∧ nw ≤ 1 + 3 * (k + 1) ∧ ([] : List (List Jou.Cell)).length ≤ k + 1 from ⟨by omega, by have := HNW.out; omega, by simp⟩)
          clear hj4 hk4 hlt2 hm0
          go_wp2_with fail
          obtain ⟨y0, hy0⟩ : ∃ y0, y0 = (w4).drew := ⟨_, rfl⟩
          have hby : Below (w4).heap.size w4 y0 := by rw [hy0]; exact (Below.refl _ _).drew
          have HJy0 := Lib.hid (HJF.out.below hby)
          have HRy0 := Lib.hid (HRF.out.below hby)
          have HY0 := Lib.hid hy0
          clear hby hy0
          refine wp_region_two (T := fun W => W.cell? ⟨q, 0, none⟩ = some (.int .i64 nw)) (S := fun _ => True) (n := 99) (by kernel_rfl) ?_
          rw [← HY0.out]
          have hS : True := trivial
          have hT : y0.cell? ⟨q, 0, none⟩ = some (.int .i64 nw) := HRy0.out.blk.cell 0
          refine two_takeT 0 (some 131) (v := ?_) rfl rfl (by kernel_rfl) (by kernel_rfl) (by kernel_rfl) (by decide) (fun _ _ _ h => h) (Or.inl ⟨by rfl, ?hy0⟩) hT hS ?_
          case hy0 => (intro w' hT'; (try unfold T8 at hT'); (try unfold T9 at hT'); (try unfold S8 at hT'); go_simp; (try with_reducible rfl))
          try simp only [Act.put, List.setIfInBounds_toArray, List.set_cons_zero, List.set_cons_succ]
          refine two_takeT 2 (some 133) (v := ?_) rfl rfl (by kernel_rfl) (by kernel_rfl) (by kernel_rfl) (by decide) (fun _ _ _ h => h) (Or.inl ⟨by rfl, ?hy2⟩) hT hS ?_
          case hy2 => (intro w' hT'; (try unfold T8 at hT'); (try unfold T9 at hT'); (try unfold S8 at hT'); go_simp; (try with_reducible rfl))
          try simp only [Act.put, List.setIfInBounds_toArray, List.set_cons_zero, List.set_cons_succ]
          refine two_takeT 3 (some 134) (v := ?_) rfl rfl (by kernel_rfl) (by kernel_rfl) (by kernel_rfl) (by decide) (fun _ _ _ h => h) (Or.inl ⟨by rfl, ?hy3⟩) hT hS ?_
          case hy3 => (intro w' hT'; (try unfold T8 at hT'); (try unfold T9 at hT'); (try unfold S8 at hT'); go_simp; (try with_reducible rfl))
          try simp only [Act.put, List.setIfInBounds_toArray, List.set_cons_zero, List.set_cons_succ]
          refine two_takeT 4 (some 135) (v := ?_) rfl rfl (by kernel_rfl) (by kernel_rfl) (by kernel_rfl) (by decide) (fun _ _ _ h => h) (Or.inl ⟨by rfl, ?hy4⟩) hT hS ?_
          case hy4 => (intro w' hT'; (try unfold T8 at hT'); (try unfold T9 at hT'); (try unfold S8 at hT'); go_simp; (try with_reducible rfl))
          try simp only [Act.put, List.setIfInBounds_toArray, List.set_cons_zero, List.set_cons_succ]
          refine two_takeT 5 (some 136) (v := ?_) rfl rfl (by kernel_rfl) (by kernel_rfl) (by kernel_rfl) (by decide) (fun _ _ _ h => h) (Or.inl ⟨by rfl, ?hy5⟩) hT hS ?_
          case hy5 => (intro w' hT'; (try unfold T8 at hT'); (try unfold T9 at hT'); (try unfold S8 at hT'); go_simp; (try with_reducible rfl))
          try simp only [Act.put, List.setIfInBounds_toArray, List.set_cons_zero, List.set_cons_succ]
          refine two_one 1 rfl (by kernel_rfl) ?_
          intro K hK
          go_simp
          refine (jnum_ok HJy0.out HDF.out.1 HDF.out.2.1).mono ?_
          rintro e y1 ⟨rfl, hb1⟩
          have HJy1 := Lib.hid (HJy0.out.below hb1)
          have HRy1 := Lib.hid (HRy0.out.below hb1)
          have hT1 : y1.cell? ⟨q, 0, none⟩ = some (.int .i64 nw) := HRy1.out.blk.cell 0
          refine hK.out _ _ hT1 (fun _ _ => hS) ?_
          clear hK K hT hb1
          have hT := hT1
          clear hT1
          try simp only [Act.put, List.setIfInBounds_toArray, List.set_cons_zero, List.set_cons_succ]
          refine two_takeT 6 (some 137) (v := ?_) rfl rfl (by kernel_rfl) (by kernel_rfl) (by kernel_rfl) (by decide) (fun _ _ _ h => h) (Or.inl ⟨by rfl, ?hy6⟩) hT hS ?_
          case hy6 => (intro w' hT'; (try unfold T8 at hT'); (try unfold T9 at hT'); (try unfold S8 at hT'); go_simp; (try with_reducible rfl))
          try simp only [Act.put, List.setIfInBounds_toArray, List.set_cons_zero, List.set_cons_succ]
          refine two_done (by kernel_rfl) ?_ _
          clear hT hS
          go_wp2_with fail
          go_roundw
          case rel => exact ⟨k + 1, by go_num, by omega, _, _, _, _, _, nw, _, _, rfl, rfl, HJy1.out, HRy1.out, HIN.out, HDF.out.1, HDF.out.2.1, HDF.out.2.2.1, HOKF.out, HDF.out.2.2.2.1, HDF.out.2.2.2.2, HNF.out.1, HNF.out.2.1, HNF.out.2.2⟩
          case measure => simp [intOf]; omega
      · have k3f : ((k5 : Int) == 3) = false := by rw [beq_eq_false_iff_ne]; omega
        by_cases k4 : k5 = 4
        · subst k4
          go_wp2_with fail
          obtain ⟨d1, d2, e1, e2, a1, a2, a3, a4, a5⟩ := crash_one HD.out.1 HD.out.2.2.1 kk
          have E2 := Lib.hid e2
          have A := Lib.hid (And.intro a1 (And.intro a2 (And.intro a3 (a4.trans HD.out.2.2.2.2))))
          refine (HJ.out.live.crashP (.slice kx kn kc) kk ((HRK.out wr HBR.out).mono (fun g e => e.2)) (by have := HK20.out; omega) e1).mono ?_
          rintro e w3 ⟨rfl, hl3, hk3⟩
          have HL3 := Lib.hid hl3
          have HR3 := Lib.hid (HR.out.chg hk3 (fun g hg e => e (HINR.out g hg).1))
          clear hl3 hk3 e1 e2 a1 a2 a3 a4 a5 c0
          go_wp2_with fail
          refine (HL3.out.startK E2.out).mono ?_
          rintro e w4 ⟨rfl, hl4, hk4⟩
          have HL4 := Lib.hid hl4
          have HR4 := Lib.hid (HR3.out.chg hk4 (fun g hg e => e (HINR.out g hg).1))
          clear hl4 hk4
          go_wp2_with fail
          obtain ⟨d5, hcall, o1, o2, o3, o4, o5⟩ := jopen_JF (n := num) (fr := num) (lots := lots) (tail := []) (s := (jText lots).length) HL4.out A.out.1 (by rw [A.out.2.1]; exact HD.out.2.2.1.open) HNUM.out HN12.out.1 (Nat.le_refl _) HOK.out.ok nil_none (fun e => absurd rfl e) (fun _ => rfl)
          have HCA := Lib.hid hcall
          have HDF := Lib.hid (show d5.off = false ∧ d5.starts = d2.starts ∧ JF num lots d5.files ∧ d5.fail = none ∧ d5.room = 1048576 from ⟨o1, o5, o2, o3.trans A.out.2.2.1, o4.trans A.out.2.2.2⟩)
          clear hcall o1 o2 o3 o4 o5
          refine HCA.out.mono ?_
          rintro e w5 ⟨o, u5, Y5, rfl, hY5, hj5, hu5, hux5, hk5, hoz⟩
          obtain ⟨ux5, uc5, hus5⟩ := hu5.rd.form
          obtain ⟨un5, hun5⟩ : ∃ un5, un5 = lots.flatten.length := ⟨_, rfl⟩
          rw [← hun5] at hus5
          subst hus5
          have HIN := Lib.hid (show ∀ g, RIn q u vals g → Y5 g ∧ g ≠ o from fun g hg => ⟨hY5 g (HINR.out g hg).1, by have := (HR4.out.inB g hg).2; omega⟩)
          have HR5 := Lib.hid (HR4.out.chg hk5 (fun g hg e => e (HINR.out g hg).1))
          have HJ5 := Lib.hid hj5
          have HU5 := Lib.hid hu5
          have HQZ := Lib.hid (HR4.out.blk.lt)
          clear hY5 hj5 hu5 hux5 hk5 hoz hun5
          go_wp2_with fail
          refine (refLast_any HR5.out (by have := HVL.out; omega) (by omega)).mono ?_
          rintro e w5b ⟨rfl, rfl⟩
          have q0 := HR5.out.blk.cell 0
          have qf := HR5.out.blk.free 0
          simp at q0
          obtain ⟨w6, hw6⟩ : ∃ w6, w6 = w5.setCell ⟨q, 0, none⟩ (.int .i64 num) := ⟨_, rfl⟩
          have hch6 : Chg (· = q) w5 w6 := by rw [hw6]; exact put_wr w5 q 0 _
          have HR6 := Lib.hid (show RefJ w.heap.size w6 q num u vals lots by rw [hw6]; exact HR5.out.setNum)
          have HJ6 := Lib.hid (HJ5.out.chgY hch6 (fun g e => by
            have e2 : g = q := e
            subst e2
            exact ⟨(HIN.out g (.inl rfl)).1, HR5.out.qB, (HIN.out g (.inl rfl)).2⟩))
          have HU6 := Lib.hid (HU5.out.chg hch6 (fun g hg e => by
            have e2 : g = q := e
            have h1 := (HU5.out.lt g hg).1
            have h2 := HQZ.out
            omega)).rd
          have HW6 := Lib.hid hw6
          clear hch6 hw6
          go_wp2_with fail
          rw [← HW6.out]
          refine (refCells_any HR6.out (by have := HVL.out; omega) (by have := HOK.out.flat; omega)).mono ?_
          rintro e w7 ⟨v7, rfl, ho7, hb7⟩
          have HJ7 := Lib.hid (HJ6.out.below hb7)
          have HR7 := Lib.hid (HR6.out.below hb7)
          have HSC := Lib.hid (sameCells_any _ _ _ _ w7 (HU6.out.below hb7) ho7.rd (by have := HOK.out.flat; omega) (by have := HOK.out.flat; omega))
          rw [sameC_true rfl] at HSC
          clear ho7 hb7 q0 qf
          go_wp2_with fail
          refine HSC.out.mono ?_
          rintro e w8 ⟨rfl, hb8⟩
          have HJF := Lib.hid (HJ7.out.below hb8)
          have HRF := Lib.hid (HR7.out.below hb8)
          have HOKF := Lib.hid HOK.out.next
          have HNF := Lib.hid (show 1 ≤ num ∧ num ≤ 1 + 3 * (k + 1) ∧ lots.length ≤ k + 1 from ⟨HN12.out.1, by have := HN12.out.2; omega, by have := HLK.out; omega⟩)
          clear hb8
          go_wp2_with fail
          obtain ⟨y0, hy0⟩ : ∃ y0, y0 = (w8).drew := ⟨_, rfl⟩
          have hby : Below (w8).heap.size w8 y0 := by rw [hy0]; exact (Below.refl _ _).drew
          have HJy0 := Lib.hid (HJF.out.below hby)
          have HRy0 := Lib.hid (HRF.out.below hby)
          have HY0 := Lib.hid hy0
          clear hby hy0
          refine wp_region_two (T := fun W => W.cell? ⟨q, 0, none⟩ = some (.int .i64 num)) (S := fun _ => True) (n := 99) (by kernel_rfl) ?_
          rw [← HY0.out]
          have hS : True := trivial
          have hT : y0.cell? ⟨q, 0, none⟩ = some (.int .i64 num) := HRy0.out.blk.cell 0
          refine two_takeT 0 (some 131) (v := ?_) rfl rfl (by kernel_rfl) (by kernel_rfl) (by kernel_rfl) (by decide) (fun _ _ _ h => h) (Or.inl ⟨by rfl, ?hy0⟩) hT hS ?_
          case hy0 => (intro w' hT'; (try unfold T8 at hT'); (try unfold T9 at hT'); (try unfold S8 at hT'); go_simp; (try with_reducible rfl))
          try simp only [Act.put, List.setIfInBounds_toArray, List.set_cons_zero, List.set_cons_succ]
          refine two_takeT 2 (some 133) (v := ?_) rfl rfl (by kernel_rfl) (by kernel_rfl) (by kernel_rfl) (by decide) (fun _ _ _ h => h) (Or.inl ⟨by rfl, ?hy2⟩) hT hS ?_
          case hy2 => (intro w' hT'; (try unfold T8 at hT'); (try unfold T9 at hT'); (try unfold S8 at hT'); go_simp; (try with_reducible rfl))
          try simp only [Act.put, List.setIfInBounds_toArray, List.set_cons_zero, List.set_cons_succ]
          refine two_takeT 3 (some 134) (v := ?_) rfl rfl (by kernel_rfl) (by kernel_rfl) (by kernel_rfl) (by decide) (fun _ _ _ h => h) (Or.inl ⟨by rfl, ?hy3⟩) hT hS ?_
          case hy3 => (intro w' hT'; (try unfold T8 at hT'); (try unfold T9 at hT'); (try unfold S8 at hT'); go_simp; (try with_reducible rfl))
          try simp only [Act.put, List.setIfInBounds_toArray, List.set_cons_zero, List.set_cons_succ]
          refine two_takeT 4 (some 135) (v := ?_) rfl rfl (by kernel_rfl) (by kernel_rfl) (by kernel_rfl) (by decide) (fun _ _ _ h => h) (Or.inl ⟨by rfl, ?hy4⟩) hT hS ?_
          case hy4 => (intro w' hT'; (try unfold T8 at hT'); (try unfold T9 at hT'); (try unfold S8 at hT'); go_simp; (try with_reducible rfl))
          try simp only [Act.put, List.setIfInBounds_toArray, List.set_cons_zero, List.set_cons_succ]
          refine two_takeT 5 (some 136) (v := ?_) rfl rfl (by kernel_rfl) (by kernel_rfl) (by kernel_rfl) (by decide) (fun _ _ _ h => h) (Or.inl ⟨by rfl, ?hy5⟩) hT hS ?_
          case hy5 => (intro w' hT'; (try unfold T8 at hT'); (try unfold T9 at hT'); (try unfold S8 at hT'); go_simp; (try with_reducible rfl))
          try simp only [Act.put, List.setIfInBounds_toArray, List.set_cons_zero, List.set_cons_succ]
          refine two_one 1 rfl (by kernel_rfl) ?_
          intro K hK
          go_simp
          refine (jnum_ok HJy0.out HDF.out.1 HDF.out.2.1).mono ?_
          rintro e y1 ⟨rfl, hb1⟩
          have HJy1 := Lib.hid (HJy0.out.below hb1)
          have HRy1 := Lib.hid (HRy0.out.below hb1)
          have hT1 : y1.cell? ⟨q, 0, none⟩ = some (.int .i64 num) := HRy1.out.blk.cell 0
          refine hK.out _ _ hT1 (fun _ _ => hS) ?_
          clear hK K hT hb1
          have hT := hT1
          clear hT1
          try simp only [Act.put, List.setIfInBounds_toArray, List.set_cons_zero, List.set_cons_succ]
          refine two_takeT 6 (some 137) (v := ?_) rfl rfl (by kernel_rfl) (by kernel_rfl) (by kernel_rfl) (by decide) (fun _ _ _ h => h) (Or.inl ⟨by rfl, ?hy6⟩) hT hS ?_
          case hy6 => (intro w' hT'; (try unfold T8 at hT'); (try unfold T9 at hT'); (try unfold S8 at hT'); go_simp; (try with_reducible rfl))
          try simp only [Act.put, List.setIfInBounds_toArray, List.set_cons_zero, List.set_cons_succ]
          refine two_done (by kernel_rfl) ?_ _
          clear hT hS
          go_wp2_with fail
          go_roundw
          case rel => exact ⟨k + 1, by go_num, by omega, _, _, _, _, _, num, _, _, rfl, rfl, HJy1.out, HRy1.out, HIN.out, HDF.out.1, HDF.out.2.1, HDF.out.2.2.1, HOKF.out, HDF.out.2.2.2.1, HDF.out.2.2.2.2, HNF.out.1, HNF.out.2.1, HNF.out.2.2⟩
          case measure => simp [intOf]; omega
        · have k4f : ((k5 : Int) == 4) = false := by rw [beq_eq_false_iff_ne]; omega
          go_wp2_with fail
          obtain ⟨y0, hy0⟩ : ∃ y0, y0 = wr.drew := ⟨_, rfl⟩
          have hby : Below wr.heap.size wr y0 := by rw [hy0]; exact (Below.refl _ _).drew
          have HJa := Lib.hid (HJ.out.below hby)
          have HRa := Lib.hid (HR.out.below hby)
          have HYa := Lib.hid hy0
          clear hby hy0 c0
          refine wp_region_two (T := fun W => W.cell? ⟨b, off + k * 4 + 1, none⟩ = some (.slice cx ln cc)) (S := fun _ => True) (n := 99) (by kernel_rfl) ?_
          rw [← HYa.out]
          have hS : True := trivial
          have hT : y0.cell? ⟨b, off + k * 4 + 1, none⟩ = some (.slice cx ln cc) := (HC.out y0 HJa.out.live.below).2.1
          refine two_takeT 0 (some 52) (v := ?_) rfl rfl (by kernel_rfl) (by kernel_rfl) (by kernel_rfl) (by decide) (fun _ _ _ h => h) (Or.inl ⟨by rfl, ?hy0⟩) hT hS ?_
          case hy0 => (intro w' hT'; (try unfold T8 at hT'); (try unfold T9 at hT'); (try unfold S8 at hT'); go_simp; (try with_reducible rfl))
          try simp only [Act.put, List.setIfInBounds_toArray, List.set_cons_zero, List.set_cons_succ]
          refine two_takeT 1 (some 53) (v := ?_) rfl rfl (by kernel_rfl) (by kernel_rfl) (by kernel_rfl) (by decide) (fun _ _ _ h => h) (Or.inl ⟨by rfl, ?hy1⟩) hT hS ?_
          case hy1 => (intro w' hT'; (try unfold T8 at hT'); (try unfold T9 at hT'); (try unfold S8 at hT'); go_simp; (try with_reducible rfl))
          try simp only [Act.put, List.setIfInBounds_toArray, List.set_cons_zero, List.set_cons_succ]
          refine two_takeT 2 (some 54) (v := ?_) rfl rfl (by kernel_rfl) (by kernel_rfl) (by kernel_rfl) (by decide) (fun _ _ _ h => h) (Or.inl ⟨by rfl, ?hy2⟩) hT hS ?_
          case hy2 => (intro w' hT'; (try unfold T8 at hT'); (try unfold T9 at hT'); (try unfold S8 at hT'); go_simp; (try with_reducible rfl))
          try simp only [Act.put, List.setIfInBounds_toArray, List.set_cons_zero, List.set_cons_succ]
          refine two_takeT 3 (some 55) (v := ?_) rfl rfl (by kernel_rfl) (by kernel_rfl) (by kernel_rfl) (by decide) (fun _ _ _ h => h) (Or.inl ⟨by rfl, ?hy3⟩) hT hS ?_
          case hy3 => (intro w' hT'; (try unfold T8 at hT'); (try unfold T9 at hT'); (try unfold S8 at hT'); go_simp; (try with_reducible rfl))
          try simp only [Act.put, List.setIfInBounds_toArray, List.set_cons_zero, List.set_cons_succ]
          refine two_takeT 4 (some 56) (v := ?_) rfl rfl (by kernel_rfl) (by kernel_rfl) (by kernel_rfl) (by decide) (fun _ _ _ h => h) (Or.inl ⟨by rfl, ?hy4⟩) hT hS ?_
          case hy4 => (intro w' hT'; (try unfold T8 at hT'); (try unfold T9 at hT'); (try unfold S8 at hT'); go_simp; (try with_reducible rfl))
          try simp only [Act.put, List.setIfInBounds_toArray, List.set_cons_zero, List.set_cons_succ]
          refine two_takeT 5 (some 57) (v := ?_) rfl rfl (by kernel_rfl) (by kernel_rfl) (by kernel_rfl) (by decide) (fun _ _ _ h => h) (Or.inl ⟨by rfl, ?hy5⟩) hT hS ?_
          case hy5 => (intro w' hT'; (try unfold T8 at hT'); (try unfold T9 at hT'); (try unfold S8 at hT'); go_simp; (try with_reducible rfl))
          try simp only [Act.put, List.setIfInBounds_toArray, List.set_cons_zero, List.set_cons_succ]
          refine two_takeT 7 (some 59) (v := ?_) rfl rfl (by kernel_rfl) (by kernel_rfl) (by kernel_rfl) (by decide) (fun _ _ _ h => h) (Or.inl ⟨by rfl, ?hy7⟩) hT hS ?_
          case hy7 => (intro w' hT'; (try unfold T8 at hT'); (try unfold T9 at hT'); (try unfold S8 at hT'); go_simp; (try with_reducible rfl))
          try simp only [Act.put, List.setIfInBounds_toArray, List.set_cons_zero, List.set_cons_succ]
          refine two_takeT 8 (some 60) (v := ?_) rfl rfl (by kernel_rfl) (by kernel_rfl) (by kernel_rfl) (by decide) (fun _ _ _ h => h) (Or.inl ⟨by rfl, ?hy8⟩) hT hS ?_
          case hy8 => (intro w' hT'; (try unfold T8 at hT'); (try unfold T9 at hT'); (try unfold S8 at hT'); go_simp; (try with_reducible rfl))
          try simp only [Act.put, List.setIfInBounds_toArray, List.set_cons_zero, List.set_cons_succ]
          refine two_takeT 9 (some 61) (v := ?_) rfl rfl (by kernel_rfl) (by kernel_rfl) (by kernel_rfl) (by decide) (fun _ _ _ h => h) (Or.inl ⟨by rfl, ?hy9⟩) hT hS ?_
          case hy9 => (intro w' hT'; (try unfold T8 at hT'); (try unfold T9 at hT'); (try unfold S8 at hT'); go_simp; (try with_reducible rfl))
          try simp only [Act.put, List.setIfInBounds_toArray, List.set_cons_zero, List.set_cons_succ]
          refine two_takeT 10 (some 62) (v := ?_) rfl rfl (by kernel_rfl) (by kernel_rfl) (by kernel_rfl) (by decide) (fun _ _ _ h => h) (Or.inl ⟨by rfl, ?hy10⟩) hT hS ?_
          case hy10 => (intro w' hT'; (try unfold T8 at hT'); (try unfold T9 at hT'); (try unfold S8 at hT'); go_simp; (try with_reducible rfl))
          try simp only [Act.put, List.setIfInBounds_toArray, List.set_cons_zero, List.set_cons_succ]
          refine two_takeT 11 (some 63) (v := ?_) rfl rfl (by kernel_rfl) (by kernel_rfl) (by kernel_rfl) (by decide) (fun _ _ _ h => h) (Or.inl ⟨by rfl, ?hy11⟩) hT hS ?_
          case hy11 => (intro w' hT'; (try unfold T8 at hT'); (try unfold T9 at hT'); (try unfold S8 at hT'); go_simp; (try with_reducible rfl))
          try simp only [Act.put, List.setIfInBounds_toArray, List.set_cons_zero, List.set_cons_succ]
          refine two_takeT 12 (some 64) (v := ?_) rfl rfl (by kernel_rfl) (by kernel_rfl) (by kernel_rfl) (by decide) (fun _ _ _ h => h) (Or.inl ⟨by rfl, ?hy12⟩) hT hS ?_
          case hy12 => (intro w' hT'; (try unfold T8 at hT'); (try unfold T9 at hT'); (try unfold S8 at hT'); go_simp; (try with_reducible rfl))
          try simp only [Act.put, List.setIfInBounds_toArray, List.set_cons_zero, List.set_cons_succ]
          refine two_one 6 rfl (by kernel_rfl) ?_
          intro K hK
          go_simp
          obtain ⟨d5, hj5, o1, o2, o3, o4, o5, o6, o7⟩ := refApp_lots H20.out HD.out.2.2.2.2 HOK.out (by omega) HNUM.out.hi HD.out.1 HD.out.2.2.1 HD.out.2.2.2.1
          have hap := japp_any HJa.out HD.out.1 HD.out.2.1 HNUM.out (HRD.out y0 HJa.out.live.below) (by have := H20.out.len; omega) H20.out.seq
          rw [hj5] at hap
          obtain ⟨R, hR⟩ : ∃ R, R = refApp lots lk := ⟨_, rfl⟩
          rw [← hR] at hap o3 o6 o7
          have HRR := Lib.hid hR
          refine hap.mono ?_
          clear hap hj5 hR
          rintro e y1 ⟨rfl, hj1, hk1⟩
          have HJb := Lib.hid hj1
          have HRb := Lib.hid (HRa.out.chg hk1 (fun g hg e => e.elim (fun e => e (HINR.out g hg).1) (fun e => (HINR.out g hg).2 e)))
          have HDF := Lib.hid (show d5.off = false ∧ d5.starts = st ∧ JF num R.2 d5.files ∧ d5.fail = none ∧ d5.room = 1048576 from ⟨o1, o2.trans HD.out.2.1, o3, o4, o5⟩)
          have HOKF := Lib.hid o6
          have HNF := Lib.hid (show 1 ≤ num ∧ num ≤ 1 + 3 * (k + 1) ∧ R.2.length ≤ k + 1 from ⟨HN12.out.1, by have := HN12.out.2; omega, by have := HLK.out; omega⟩)
          have hT1 : y1.cell? ⟨b, off + k * 4 + 1, none⟩ = some (.slice cx ln cc) := (HC.out y1 hj1.live.below).2.1
          refine hK.out _ _ hT1 (fun _ _ => hS) ?_
          clear hK K hT hj1 hk1 o1 o2 o3 o4 o5 o6 o7
          have hT := hT1
          clear hT1
          try simp only [Act.put, List.setIfInBounds_toArray, List.set_cons_zero, List.set_cons_succ]
          refine two_one 13 rfl (by kernel_rfl) ?_
          intro K hK
          go_simp
          have hra := refAppend_any HRb.out (by have := HVL.out; omega) (HRD.out y1 HJb.out.live.below) H20.out
          rw [← HRR.out] at hra
          refine hra.mono ?_
          clear hra
          rintro e y2 ⟨u2, vals2, rfl, hr2, hch2, hin2⟩
          have hch2' := hch2
          have HJF := Lib.hid (HJb.out.addChg hch2 (fun g hg => ⟨(HINR.out g hg).1, (HRb.out.inB g hg).1, (HINR.out g hg).2⟩))
          have HRF := Lib.hid hr2
          have HIN := Lib.hid (show ∀ g, RIn q u2 vals2 g → Also Y2 y1 y2 g ∧ g ≠ j2 from fun g hg => by
            rcases hin2 g hg with h | h
            · exact ⟨.inl (HINR.out g h).1, (HINR.out g h).2⟩
            · exact ⟨.inr h, by have := HJb.out.blk.lt; omega⟩)
          have hT1 : y2.cell? ⟨b, off + k * 4 + 1, none⟩ = some (.slice cx ln cc) := (HC.out y2 HJF.out.live.below).2.1
          obtain ⟨rr, hrr⟩ : ∃ rr, rr = R.1 := ⟨_, rfl⟩
          rw [← hrr]
          refine hK.out _ _ hT1 (fun _ _ => hS) ?_
          clear hK K hT hr2 hch2 hch2' hin2 hrr
          have hT := hT1
          clear hT1
          try simp only [Act.put, List.setIfInBounds_toArray, List.set_cons_zero, List.set_cons_succ]
          refine two_takeT 14 (some 66) (v := ?_) rfl rfl (by kernel_rfl) (by kernel_rfl) (by kernel_rfl) (by decide) (fun _ _ _ h => h) (Or.inl ⟨by rfl, ?hy14⟩) hT hS ?_
          case hy14 => (intro w' hT'; (try unfold T8 at hT'); (try unfold T9 at hT'); (try unfold S8 at hT'); go_simp; (try with_reducible rfl))
          try simp only [Act.put, List.setIfInBounds_toArray, List.set_cons_zero, List.set_cons_succ]
          refine two_done (by kernel_rfl) ?_ _
          clear hT hS
          go_wp2_with fail
          obtain ⟨y0, hy0⟩ : ∃ y0, y0 = (y2).drew := ⟨_, rfl⟩
          have hby : Below (y2).heap.size y2 y0 := by rw [hy0]; exact (Below.refl _ _).drew
          have HJy0 := Lib.hid (HJF.out.below hby)
          have HRy0 := Lib.hid (HRF.out.below hby)
          have HY0 := Lib.hid hy0
          clear hby hy0
          refine wp_region_two (T := fun W => W.cell? ⟨q, 0, none⟩ = some (.int .i64 num)) (S := fun _ => True) (n := 99) (by kernel_rfl) ?_
          rw [← HY0.out]
          have hS : True := trivial
          have hT : y0.cell? ⟨q, 0, none⟩ = some (.int .i64 num) := HRy0.out.blk.cell 0
          refine two_takeT 0 (some 131) (v := ?_) rfl rfl (by kernel_rfl) (by kernel_rfl) (by kernel_rfl) (by decide) (fun _ _ _ h => h) (Or.inl ⟨by rfl, ?hy0⟩) hT hS ?_
          case hy0 => (intro w' hT'; (try unfold T8 at hT'); (try unfold T9 at hT'); (try unfold S8 at hT'); go_simp; (try with_reducible rfl))
          try simp only [Act.put, List.setIfInBounds_toArray, List.set_cons_zero, List.set_cons_succ]
          refine two_takeT 2 (some 133) (v := ?_) rfl rfl (by kernel_rfl) (by kernel_rfl) (by kernel_rfl) (by decide) (fun _ _ _ h => h) (Or.inl ⟨by rfl, ?hy2⟩) hT hS ?_
          case hy2 => (intro w' hT'; (try unfold T8 at hT'); (try unfold T9 at hT'); (try unfold S8 at hT'); go_simp; (try with_reducible rfl))
          try simp only [Act.put, List.setIfInBounds_toArray, List.set_cons_zero, List.set_cons_succ]
          refine two_takeT 3 (some 134) (v := ?_) rfl rfl (by kernel_rfl) (by kernel_rfl) (by kernel_rfl) (by decide) (fun _ _ _ h => h) (Or.inl ⟨by rfl, ?hy3⟩) hT hS ?_
          case hy3 => (intro w' hT'; (try unfold T8 at hT'); (try unfold T9 at hT'); (try unfold S8 at hT'); go_simp; (try with_reducible rfl))
          try simp only [Act.put, List.setIfInBounds_toArray, List.set_cons_zero, List.set_cons_succ]
          refine two_takeT 4 (some 135) (v := ?_) rfl rfl (by kernel_rfl) (by kernel_rfl) (by kernel_rfl) (by decide) (fun _ _ _ h => h) (Or.inl ⟨by rfl, ?hy4⟩) hT hS ?_
          case hy4 => (intro w' hT'; (try unfold T8 at hT'); (try unfold T9 at hT'); (try unfold S8 at hT'); go_simp; (try with_reducible rfl))
          try simp only [Act.put, List.setIfInBounds_toArray, List.set_cons_zero, List.set_cons_succ]
          refine two_takeT 5 (some 136) (v := ?_) rfl rfl (by kernel_rfl) (by kernel_rfl) (by kernel_rfl) (by decide) (fun _ _ _ h => h) (Or.inl ⟨by rfl, ?hy5⟩) hT hS ?_
          case hy5 => (intro w' hT'; (try unfold T8 at hT'); (try unfold T9 at hT'); (try unfold S8 at hT'); go_simp; (try with_reducible rfl))
          try simp only [Act.put, List.setIfInBounds_toArray, List.set_cons_zero, List.set_cons_succ]
          refine two_one 1 rfl (by kernel_rfl) ?_
          intro K hK
          go_simp
          refine (jnum_ok HJy0.out HDF.out.1 HDF.out.2.1).mono ?_
          rintro e y1 ⟨rfl, hb1⟩
          have HJy1 := Lib.hid (HJy0.out.below hb1)
          have HRy1 := Lib.hid (HRy0.out.below hb1)
          have hT1 : y1.cell? ⟨q, 0, none⟩ = some (.int .i64 num) := HRy1.out.blk.cell 0
          refine hK.out _ _ hT1 (fun _ _ => hS) ?_
          clear hK K hT hb1
          have hT := hT1
          clear hT1
          try simp only [Act.put, List.setIfInBounds_toArray, List.set_cons_zero, List.set_cons_succ]
          refine two_takeT 6 (some 137) (v := ?_) rfl rfl (by kernel_rfl) (by kernel_rfl) (by kernel_rfl) (by decide) (fun _ _ _ h => h) (Or.inl ⟨by rfl, ?hy6⟩) hT hS ?_
          case hy6 => (intro w' hT'; (try unfold T8 at hT'); (try unfold T9 at hT'); (try unfold S8 at hT'); go_simp; (try with_reducible rfl))
          try simp only [Act.put, List.setIfInBounds_toArray, List.set_cons_zero, List.set_cons_succ]
          refine two_done (by kernel_rfl) ?_ _
          clear hT hS
          go_wp2_with fail
          go_roundw
          case rel => exact ⟨k + 1, by go_num, by omega, _, _, _, _, _, num, _, _, rfl, rfl, HJy1.out, HRy1.out, HIN.out, HDF.out.1, HDF.out.2.1, HDF.out.2.2.1, HOKF.out, HDF.out.2.2.2.1, HDF.out.2.2.2.2, HNF.out.1, HNF.out.2.1, HNF.out.2.2⟩
          case measure => simp [intOf]; omega
    · obtain rfl : k = n := by omega
      go_wp2_with fail
      refine (jlives_any wr).mono ?_
      rintro e wl ⟨rfl, hbl⟩
      have HBL := Lib.hid (Below.trans HBR.out (hbl.mono HBR.out.size))
      clear hbl
      go_wp2_with fail
      go_ret
      exact ⟨rfl, HBL.out⟩
end Go.Proofs.YtcijhhnbhnaiaaaGreatDoor

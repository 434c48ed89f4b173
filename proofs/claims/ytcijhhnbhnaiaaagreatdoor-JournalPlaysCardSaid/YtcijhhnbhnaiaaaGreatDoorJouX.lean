/- The document's journal in memory, walked. -/
import Derived.Test.YtcijhhnbhnaiaaaGreatDoorJouTorn1
import Derived.Test.YtcijhhnbhnaiaaaGreatDoorJouRef
namespace Go.Proofs.YtcijhhnbhnaiaaaGreatDoor
set_option linter.unusedSimpArgs false
set_option linter.unusedVariables false
set_option maxRecDepth 100000
open Go.RowKit Go.Maps
open Dsk

def lotCells (num : Int) (vals : List Value) : List Value := vals.flatMap fun c => [.int .i64 num, c]
theorem lotCells_length (num : Int) : ∀ vals : List Value, (lotCells num vals).length = vals.length * 2
  | [] => rfl
  | c :: vals => by show ([Value.int .i64 num, c] ++ lotCells num vals).length = _; rw [List.length_append, lotCells_length num vals, List.length_cons]; simp; omega
theorem lotCells_get (num : Int) : ∀ (vals : List Value) (i : Nat) (hi : i < vals.length), (lotCells num vals)[i * 2]? = some (.int .i64 num) ∧ (lotCells num vals)[i * 2 + 1]? = some vals[i]
  | [], i, hi => absurd hi (by simp)
  | c :: vals, 0, hi => ⟨rfl, rfl⟩
  | c :: vals, i + 1, hi => by
    have h := lotCells_get num vals i (by simpa using hi)
    show ([Value.int .i64 num, c] ++ lotCells num vals)[_]? = _ ∧ ([Value.int .i64 num, c] ++ lotCells num vals)[_]? = _
    rw [List.getElem?_append_right (by simp; omega), List.getElem?_append_right (by simp; omega)]
    refine ⟨?_, ?_⟩
    · rw [show (i + 1) * 2 - [Value.int .i64 num, c].length = i * 2 by simp; omega]; exact h.1
    · rw [show (i + 1) * 2 + 1 - [Value.int .i64 num, c].length = i * 2 + 1 by simp; omega]; simpa using h.2
theorem lotCells_snoc (num : Int) (vals : List Value) (c : Value) : lotCells num (vals ++ [c]) = lotCells num vals ++ [.int .i64 num, c] := by unfold lotCells; rw [List.flatMap_append]; rfl
/-- The blocks in which it lies. -/
def RIn (q : Nat) (u : Value) (vals : List Value) (k : Nat) : Prop := k = q ∨ u.ownBlock = some k ∨ ∃ i, ∃ hi : i < vals.length, vals[i].ownBlock = some k
/-- q is the document's journal: its number, and batches, all of that number. -/
structure RefJ (B : Nat) (w : World) (q : Nat) (num : Int) (u : Value) (vals : List Value) (ls : List (List Jou.Cell)) : Prop where
  blk : Blk w q 36 #[.int .i64 num, u]
  own : w.ownsRow B 75 2 u vals.length (lotCells num vals)
  len : vals.length = ls.length
  each : ∀ (i : Nat) (hi : i < vals.length) (hi' : i < ls.length), RdC w vals[i] ls[i]
  uq : u.ownBlock ≠ some q
  inV : ∀ (i : Nat) (hi : i < vals.length) (k : Nat), vals[i].ownBlock = some k → B ≤ k ∧ k < w.heap.size ∧ k ≠ q ∧ u.ownBlock ≠ some k
  qB : B ≤ q
section
variable {w w' : World} {B q : Nat} {num : Int} {u : Value} {vals : List Value} {ls : List (List Jou.Cell)} {S : Nat → Prop}
theorem RefJ.inB (h : RefJ B w q num u vals ls) : ∀ k, RIn q u vals k → B ≤ k ∧ k < w.heap.size := fun k hk => by
  rcases hk with rfl | hk | ⟨i, hi, hk⟩
  · exact ⟨h.qB, h.blk.lt⟩
  · exact World.ownsRow.lt h.own k hk
  · exact ⟨(h.inV i hi k hk).1, (h.inV i hi k hk).2.1⟩
theorem RefJ.chg (h : RefJ B w q num u vals ls) (x : Chg S w w') (hS : ∀ k, RIn q u vals k → ¬ S k) : RefJ B w' q num u vals ls :=
  ⟨h.blk.chg x (hS q (.inl rfl)), ownsRow_chg h.own x (fun k hk => hS k (.inr (.inl hk))), h.len, fun i hi hi' => (h.each i hi hi').chg (Z := RIn q u vals) (fun k hk => .inr (.inr ⟨i, hi, hk⟩)) x hS, h.uq,
   fun i hi k hk => ⟨(h.inV i hi k hk).1, Nat.lt_of_lt_of_le (h.inV i hi k hk).2.1 x.size, (h.inV i hi k hk).2.2⟩, h.qB⟩
theorem RefJ.below (h : RefJ B w q num u vals ls) (x : Below w.heap.size w w') : RefJ B w' q num u vals ls := h.chg (S := fun _ => False) (Chg.of_below x) fun _ _ e => e
theorem RefJ.form (h : RefJ B w q num u vals ls) : ∃ x c, u = .slice x vals.length c := by
  rcases h.own.2 with ⟨e, h0⟩ | ⟨g, cap, cur, e, _⟩
  · exact ⟨none, 0, by rw [e, h0]⟩
  · exact ⟨_, _, e⟩
theorem RefJ.get (h : RefJ B w q num u vals ls) (i : Nat) (hi : i < vals.length) : ∃ g c x, u = .slice (some ⟨g, 0, none⟩) vals.length c ∧ w.cell? ⟨g, i * 2, none⟩ = some (.int .i64 num) ∧ w.cell? ⟨g, i * 2 + 1, none⟩ = some x ∧ vals[i] = x ∧ ∃ hi' : i < ls.length, RdC w x ls[i] := by
  obtain ⟨g, c, e, _, _⟩ := ownsRow_form h.own (by omega)
  have h1 := World.ownsRow.cells h.own (g := g) (by rw [e]; rfl) (i * 2) _ (lotCells_get num vals i hi).1
  have h2 := World.ownsRow.cells h.own (g := g) (by rw [e]; rfl) (i * 2 + 1) _ (lotCells_get num vals i hi).2
  rw [add_none, Nat.zero_add] at h1 h2
  exact ⟨g, c, _, e, h1, h2, rfl, by rw [← h.len]; exact hi, h.each i hi (by rw [← h.len]; exact hi)⟩
theorem under_lot : Tryz.prog.underlying 34 = some (.slice 75) := by kernel_rfl
theorem Tryz.info_lot : (Tryz.prog.info? 75).map (fun i => (i.zero, i.size, i.bytes)) = some (some (.agg #[.int .i64 0, .slice none 0 0]), 2, 32) := by kernel_rfl
theorem step_append_row2 {ops : Array Oper} {o : Oper} {a : Act} {K : Act → World → Prop} {Q : Exit → Act → World → Prop} {E : Prop} (hgd : o.guard = none) (s x : Operand)
    (ho : o.op = .call { callee := .builtin .append, args := #[s, x], argTypes := #[34, 34] })
    (hown : w.ownsRow B 75 2 u vals.length (lotCells num vals)) (hs : a.eval s = u) (g : Nat) (hx : a.eval x = .slice (some ⟨g, 0, none⟩) 1 1) (c : Value) (hone : c.oneCell' = true) (h0 : w.cell? ⟨g, 0, none⟩ = some (.int .i64 num)) (h1 : w.cell? ⟨g, 1, none⟩ = some c) (hl : vals.length ≤ 1000) (hB : B ≤ w.heap.size)
    (hK : ∀ u' w', w'.ownsRow B 75 2 u' (vals ++ [c]).length (lotCells num (vals ++ [c])) → w.grownBy w' u.ownBlock → (u'.ownBlock = u.ownBlock ∨ u'.ownBlock = some w.heap.size) → K (a.put o.dst u') w') : if Region.wanted o (yielded ops a.tmps) = true then Oper.wp Tryz.prog o a w K Q else E := by
  have hw : Region.wanted o (yielded ops a.tmps) = true := by simp [Region.wanted, hgd]
  rw [if_pos hw]
  obtain ⟨i0, hi, hz0, hz1, hz2⟩ := info_parts Tryz.info_lot
  obtain ⟨u', w', e1, e2, e3, _, e5⟩ := run_append_own_at (P := Tryz.prog) w B 34 o.type 75 i0 (.agg #[.int .i64 0, .slice none 0 0]) 2 32 under_lot hi hz0 hz1 hz2 rfl (by decide) u vals.length (lotCells num vals) hown ⟨g, 0, none⟩ 1 1 [.int .i64 num, c] rfl (fun j u hj => by
    match j, hj with
    | 0, hj => simp at hj; subst hj; simpa [Addr.add] using h0
    | 1, hj => simp at hj; subst hj; rw [add_none]; simpa using h1
    | (n + 2), hj => simp at hj) (fun u hu => by
      simp at hu
      rcases hu with rfl | rfl
      · rfl
      · exact hone) (by unfold maxLen; omega) (by omega) hB
  unfold Oper.wp execOp
  simp only [ho, resolve, invoke, builtin, Sem.run_bind, Sem.run_pure, Result.andThen_ok, List.map_toArray, List.map_cons, List.map_nil, hs, hx, e1]
  exact hK u' w' (by rw [List.length_append, lotCells_snoc]; exact e2) e3 e5
/-- What Append comes to. -/
def refApp (ls : List (List Jou.Cell)) (l : List Jou.Cell) : Int × List (List Jou.Cell) := if ∀ c ∈ l, Jou.May c then (0, if l = [] then ls else ls ++ [l]) else (2, ls)
def RefPost (B : Nat) (w : World) (q : Nat) (num : Int) (u : Value) (vals : List Value) (r : Int) (ls' : List (List Jou.Cell)) (e : Ending) (w' : World) : Prop :=
  ∃ u' vals', e = .returned (.int .i64 r) ∧ RefJ B w' q num u' vals' ls' ∧ Chg (RIn q u vals) w w' ∧ ∀ k, RIn q u' vals' k → RIn q u vals k ∨ (w.heap.size ≤ k ∧ k < w'.heap.size)
theorem RefPost.quiet {r : Int} (h : RefJ B w q num u vals ls) (x : Below w.heap.size w w') : RefPost B w q num u vals r ls (.returned (.int .i64 r)) w' := ⟨u, vals, rfl, h.below x, Chg.of_below x, fun k hk => .inl hk⟩
set_option maxHeartbeats 4000000 in
theorem refAppend_any (h : RefJ B w q num u vals ls) (hlen : vals.length ≤ 1000) {lv : Value} {l : List Jou.Cell} (hl : RdC w lv l) (h20 : Lot20 l) :
    Calls Tryz.prog 21 #[.pointer (some ⟨q, 0, none⟩), lv] w (RefPost B w q num u vals (refApp ls l).1 (refApp ls l).2) := by
  have HE := Lib.hid (refEncode_c lv l w hl (by have := h20.len; omega) h20.seq)
  have H := Lib.hid h
  obtain ⟨lx, lc, hlv⟩ := hl.form
  subst hlv
  have HL := Lib.hid hl
  have HV := Lib.hid hlen
  obtain ⟨ux, uc, hu⟩ := h.form
  obtain ⟨un, hun⟩ : ∃ un, un = vals.length := ⟨_, rfl⟩
  rw [← hun] at hu
  subst hu
  obtain ⟨ln, hln⟩ : ∃ ln, ln = l.length := ⟨_, rfl⟩
  rw [← hln] at HE HL ⊢
  have HLN := Lib.hid hln
  have hln20 : ln ≤ 20 := by rw [hln]; exact h20.len
  clear h hl hlen hun hln
  by_cases hm : ∀ c ∈ l, Jou.May c
  case neg =>
    have e1 : encQ l = ([], 2) := by unfold encQ; exact if_neg hm
    have e2 : refApp ls l = (2, ls) := by unfold refApp; exact if_neg hm
    rw [e1] at HE
    rw [e2]
    clear hm e1 e2
    go_enter Tryz.func21, Tryz.ntmps21
    go_wp2_with fail
    refine HE.out.mono ?_
    rintro e w1 ⟨rfl, hb1⟩
    have HB1 := Lib.hid hb1
    clear hb1
    go_wp2_with fail
    go_ret
    exact RefPost.quiet H.out HB1.out
  case pos =>
    have e1 : encQ l = (Jou.enc l, 0) := by unfold encQ; exact if_pos hm
    rw [e1] at HE
    obtain ⟨Q, hQ⟩ : ∃ Q : ByteArray, Q = ⟨(Jou.enc l).toArray⟩ := ⟨_, rfl⟩
    have hQz : Q.size ≤ 16384 := by
      have h1 : Q.size = (Jou.enc l).length := by rw [hQ]; exact List.size_toArray
      rw [h1]
      exact (h20.ok hm).short
    simp only at HE
    rw [← hQ] at HE
    clear e1 hQ
    by_cases h0 : ln = 0
    · have e2 : refApp ls l = (0, ls) := by
        have hl0 : l = [] := List.length_eq_zero_iff.1 (by rw [← HLN.out]; exact h0)
        unfold refApp
        rw [if_pos hm, if_pos hl0]
      rw [e2]
      subst h0
      clear hm e2
      go_enter Tryz.func21, Tryz.ntmps21
      go_wp2_with fail
      refine HE.out.mono ?_
      rintro e w1 ⟨rfl, hb1⟩
      have HB1 := Lib.hid hb1
      clear hb1
      go_wp2_with fail
      go_ret
      exact RefPost.quiet H.out HB1.out
    · have e2 : refApp ls l = (0, ls ++ [l]) := by
        have hl0 : ¬ l = [] := fun e => h0 (by rw [HLN.out, e]; rfl)
        unfold refApp
        rw [if_pos hm, if_neg hl0]
      rw [e2]
      have tl0 : (0 : Int) < ln := by omega
      clear hm e2
      go_enter Tryz.func21, Tryz.ntmps21
      go_wp2_with fail
      refine HE.out.mono ?_
      rintro e w1 ⟨rfl, hb1⟩
      have HB1 := Lib.hid hb1
      clear hb1
      go_wp2_with fail
      obtain ⟨x0, hx0⟩ : ∃ x0, x0 = w1.drew := ⟨_, rfl⟩
      have hb01 : Below w1.heap.size w1 x0 := by rw [hx0]; exact (Below.refl _ _).drew
      have HB0 := Lib.hid (HB1.out.trans (hb01.mono HB1.out.size))
      have HR0 := Lib.hid (H.out.below HB0.out)
      have HL0 := Lib.hid (HL.out.below HB0.out)
      have hT : x0.cell? ⟨q, 0, none⟩ = some (.int .i64 num) := HR0.out.blk.cell 0
      have hS : x0.cell? ⟨q, 1, none⟩ = some (.slice ux un uc) := HR0.out.blk.cell 1
      have hbz := HR0.out.inB
      refine wp_region_two (T := fun W => W.cell? ⟨q, 0, none⟩ = some (.int .i64 num)) (S := fun W => W.cell? ⟨q, 1, none⟩ = some (.slice ux un uc)) (n := 13) (by kernel_rfl) ?_
      rw [← hx0]
      have HZ := Lib.hid hbz
      clear hx0 hb01 hbz
      refine two_takeT 0 (some 21) (v := ?_) rfl rfl (by kernel_rfl) (by kernel_rfl) (by kernel_rfl) (by decide) (fun _ _ _ h => h) (Or.inl ⟨by rfl, ?hy0⟩) hT hS ?_
      case hy0 => (intro w' hT'; (try unfold T8 at hT'); (try unfold T9 at hT'); (try unfold S8 at hT'); go_simp; (try with_reducible rfl))
      try simp only [Act.put, List.setIfInBounds_toArray, List.set_cons_zero, List.set_cons_succ]
      refine two_takeT 1 (some 22) (v := ?_) rfl rfl (by kernel_rfl) (by kernel_rfl) (by kernel_rfl) (by decide) (fun _ _ _ h => h) (Or.inl ⟨by rfl, ?hy1⟩) hT hS ?_
      case hy1 => (intro w' hT'; (try unfold T8 at hT'); (try unfold T9 at hT'); (try unfold S8 at hT'); go_simp; (try with_reducible rfl))
      try simp only [Act.put, List.setIfInBounds_toArray, List.set_cons_zero, List.set_cons_succ]
      refine two_takeT 2 (some 23) (v := ?_) rfl rfl (by kernel_rfl) (by kernel_rfl) (by kernel_rfl) (by decide) (fun _ _ _ h => h) (Or.inl ⟨by rfl, ?hy2⟩) hT hS ?_
      case hy2 => (intro w' hT'; (try unfold T8 at hT'); (try unfold T9 at hT'); (try unfold S8 at hT'); go_simp; (try with_reducible rfl))
      try simp only [Act.put, List.setIfInBounds_toArray, List.set_cons_zero, List.set_cons_succ]
      refine two_takeT 3 (some 24) (v := ?_) rfl rfl (by kernel_rfl) (by kernel_rfl) (by kernel_rfl) (by decide) (fun _ _ _ h => h) (Or.inl ⟨by rfl, ?hy3⟩) hT hS ?_
      case hy3 => (intro w' hT'; (try unfold T8 at hT'); (try unfold T9 at hT'); (try unfold S8 at hT'); go_simp; (try with_reducible rfl))
      try simp only [Act.put, List.setIfInBounds_toArray, List.set_cons_zero, List.set_cons_succ]
      refine two_take 4 (some 25) (v := ?_) rfl rfl (by kernel_rfl) (by kernel_rfl) (by kernel_rfl) (by kernel_rfl) (by decide) (by kernel_rfl) (fun _ _ _ h => h) (Or.inl ⟨by rfl, ?hy4⟩) hT hS ?_
      case hy4 => (intro w' hS'; (try unfold S8 at hS'); (try unfold T8 at hS'); go_simp; (try with_reducible rfl))
      try simp only [Act.put, List.setIfInBounds_toArray, List.set_cons_zero, List.set_cons_succ]
      refine two_takeT 5 (some 26) (v := ?_) rfl rfl (by kernel_rfl) (by kernel_rfl) (by kernel_rfl) (by decide) (fun _ _ _ h => h) (Or.inl ⟨by rfl, ?hy5⟩) hT hS ?_
      case hy5 => (intro w' hT'; (try unfold T8 at hT'); (try unfold T9 at hT'); (try unfold S8 at hT'); go_simp; (try with_reducible rfl))
      try simp only [Act.put, List.setIfInBounds_toArray, List.set_cons_zero, List.set_cons_succ]
      refine two_takeT 6 (some 27) (v := ?_) rfl rfl (by kernel_rfl) (by kernel_rfl) (by kernel_rfl) (by decide) (fun _ _ _ h => h) (Or.inl ⟨by rfl, ?hy6⟩) hT hS ?_
      case hy6 => (intro w' hT'; (try unfold T8 at hT'); (try unfold T9 at hT'); (try unfold S8 at hT'); go_simp; (try with_reducible rfl))
      try simp only [Act.put, List.setIfInBounds_toArray, List.set_cons_zero, List.set_cons_succ]
      refine two_takeT 7 (some 28) (v := ?_) rfl rfl (by kernel_rfl) (by kernel_rfl) (by kernel_rfl) (by decide) (fun _ _ _ h => h) (Or.inl ⟨by rfl, ?hy7⟩) hT hS ?_
      case hy7 => (intro w' hT'; (try unfold T8 at hT'); (try unfold T9 at hT'); (try unfold S8 at hT'); go_simp; (try with_reducible rfl))
      try simp only [Act.put, List.setIfInBounds_toArray, List.set_cons_zero, List.set_cons_succ]
      refine two_takeT 8 (some 29) (v := ?_) rfl rfl (by kernel_rfl) (by kernel_rfl) (by kernel_rfl) (by decide) (fun _ _ _ h => h) (Or.inl ⟨by rfl, ?hy8⟩) hT hS ?_
      case hy8 => (intro w' hT'; (try unfold T8 at hT'); (try unfold T9 at hT'); (try unfold S8 at hT'); go_simp; (try with_reducible rfl))
      try simp only [Act.put, List.setIfInBounds_toArray, List.set_cons_zero, List.set_cons_succ]
      refine two_takeT 9 (some 30) (v := ?_) rfl rfl (by kernel_rfl) (by kernel_rfl) (by kernel_rfl) (by decide) (fun _ _ _ h => h) (Or.inl ⟨by rfl, ?hy9⟩) hT hS ?_
      case hy9 => (intro w' hT'; (try unfold T8 at hT'); (try unfold T9 at hT'); (try unfold S8 at hT'); go_simp; (try with_reducible rfl))
      try simp only [Act.put, List.setIfInBounds_toArray, List.set_cons_zero, List.set_cons_succ]
      refine two_one 10 rfl (by kernel_rfl) ?_
      intro K hK
      refine step_append_cells rfl (.const (.slice none 0 0)) (.tmp 30) (by rfl) x0.heap.size (.slice none 0 0) [] (by rfl) (OwnC.nil _ _) _ l (by rfl) HL0.out (by rw [← HLN.out]; simp only [List.length_nil]; omega) (Nat.le_refl _) ?_
      intro v1 x1 hown1 hb1
      have HB01 := Lib.hid hb1
      have hqz : q < x0.heap.size := (HZ.out q (.inl rfl)).2
      have hT1 : x1.cell? ⟨q, 0, none⟩ = some (.int .i64 num) := (hb1.cell (p := ⟨q, 0, none⟩) hqz).trans hT
      have hS1 : x1.cell? ⟨q, 1, none⟩ = some (.slice ux un uc) := (hb1.cell (p := ⟨q, 1, none⟩) hqz).trans hS
      have HO1 := Lib.hid (show OwnC x1 x0.heap.size v1 l by rw [List.nil_append] at hown1; exact hown1)
      clear hown1
      obtain ⟨px, pc, hpf⟩ := HO1.out.rd.form
      rw [← HLN.out] at hpf
      subst hpf
      refine hK.out _ _ hT1 (fun _ _ => hS1) ?_
      clear hK K hT hS hb1
      have hT := hT1
      have hS := hS1
      clear hT1 hS1
      try simp only [Act.put, List.setIfInBounds_toArray, List.set_cons_zero, List.set_cons_succ]
      refine two_takeT 11 (some 32) (v := ?_) rfl rfl (by kernel_rfl) (by kernel_rfl) (by kernel_rfl) (by decide) (fun _ _ _ h => h) (Or.inl ⟨by rfl, ?hy11⟩) hT hS ?_
      case hy11 => (intro w' hT'; (try unfold T8 at hT'); (try unfold T9 at hT'); (try unfold S8 at hT'); go_simp; (try with_reducible rfl))
      try simp only [Act.put, List.setIfInBounds_toArray, List.set_cons_zero, List.set_cons_succ]
      refine two_one 12 rfl (by kernel_rfl) ?_
      intro K hK
      go_simp
      obtain ⟨x2, hx2⟩ : ∃ x2, x2 = x1.alloc (.cells #[.int .i64 num, .slice px ln pc] 75 (0, 0)) := ⟨_, rfl⟩
      rw [← hx2]
      have hb12 : Below x1.heap.size x1 x2 := by rw [hx2]; exact (Below.refl _ _).alloc (Nat.le_refl _) _
      have hqz1 : q < x1.heap.size := Nat.lt_of_lt_of_le hqz HB01.out.size
      have HC2 := Lib.hid (show x2.cell? ⟨x1.heap.size, 0, none⟩ = some (.int .i64 num) ∧ x2.cell? ⟨x1.heap.size, 1, none⟩ = some (.slice px ln pc) by rw [hx2]; exact ⟨(Blk.alloc_new x1 _ _).cell 0, (Blk.alloc_new x1 _ _).cell 1⟩)
      have hT1 : x2.cell? ⟨q, 0, none⟩ = some (.int .i64 num) := (hb12.cell (p := ⟨q, 0, none⟩) hqz1).trans hT
      have hS1 : x2.cell? ⟨q, 1, none⟩ = some (.slice ux un uc) := (hb12.cell (p := ⟨q, 1, none⟩) hqz1).trans hS
      have HB02 := Lib.hid (HB01.out.trans (hb12.mono HB01.out.size))
      have HR2 := Lib.hid (HR0.out.below HB02.out)
      have HO2 := Lib.hid (HO1.out.kept hb12)
      refine hK.out _ _ hT1 (fun _ _ => hS1) ?_
      clear hK K hT hS hb12 hx2
      have hT := hT1
      have hS := hS1
      clear hT1 hS1
      try simp only [Act.put, List.setIfInBounds_toArray, List.set_cons_zero, List.set_cons_succ]
      refine two_one 13 rfl (by kernel_rfl) ?_
      intro K hK
      refine step_append_row2 rfl (.tmp 25) (.tmp 33) (by rfl) HR2.out.own (by rfl) x1.heap.size (by rfl) (.slice px ln pc) rfl HC2.out.1 HC2.out.2 HV.out (by have := HR2.out.qB; have := HR2.out.blk.lt; omega) ?_
      intro u3 x3 hown3 hgr3 hb3
      obtain ⟨g3, cc3, hu3, _, _⟩ := ownsRow_form hown3 (by rw [List.length_append]; simp)
      obtain ⟨n3, hn3⟩ : ∃ n3, n3 = (vals ++ [Value.slice px ln pc]).length := ⟨_, rfl⟩
      rw [← hn3] at hu3
      subst hu3
      clear hn3
      have hch3 := chg_of_grown hgr3
      have hqb : Blk x3 q 36 #[.int .i64 num, .slice ux un uc] := HR2.out.blk.chg hch3 (fun e => HR2.out.uq e)
      have hT1 : x3.cell? ⟨q, 0, none⟩ = some (.int .i64 num) := hqb.cell 0
      have HQ3 := Lib.hid hqb
      have HCH3 := Lib.hid hch3
      have HO3 := Lib.hid hown3
      have HU3 := Lib.hid hb3
      have hS1 : x3.cell? ⟨q, 1, none⟩ = some (.slice ux un uc) := hqb.cell 1
      refine hK.out _ _ hT1 (fun _ e => absurd rfl e) ?_
      clear hK K hT hS hown3 hgr3 hb3 hch3 hqb
      have hT := hT1
      have hS := hS1
      clear hT1 hS1
      try simp only [Act.put, List.setIfInBounds_toArray, List.set_cons_zero, List.set_cons_succ]
      refine two_takeT 14 (some 35) (v := ?_) rfl rfl (by kernel_rfl) (by kernel_rfl) (by kernel_rfl) (by decide) (fun _ _ _ h => h) (Or.inl ⟨by rfl, ?hy14⟩) hT hS ?_
      case hy14 => (intro w' hT'; (try unfold T8 at hT'); (try unfold T9 at hT'); (try unfold S8 at hT'); go_simp; (try with_reducible rfl))
      try simp only [Act.put, List.setIfInBounds_toArray, List.set_cons_zero, List.set_cons_succ]
      refine two_takeT 15 (some 36) (v := ?_) rfl rfl (by kernel_rfl) (by kernel_rfl) (by kernel_rfl) (by decide) (fun _ _ _ h => h) (Or.inl ⟨by rfl, ?hy15⟩) hT hS ?_
      case hy15 => (intro w' hT'; (try unfold T8 at hT'); (try unfold T9 at hT'); (try unfold S8 at hT'); go_simp; (try with_reducible rfl))
      try simp only [Act.put, List.setIfInBounds_toArray, List.set_cons_zero, List.set_cons_succ]
      clear hS
      have c1 := HQ3.out.cell 1
      have f1 := HQ3.out.free 1
      simp at c1
      refine two_one 16 rfl (by kernel_rfl) ?_
      intro K hK
      go_simp
      obtain ⟨x4, hx4⟩ : ∃ x4, x4 = x3.setCell ⟨q, 1, none⟩ (.slice (some ⟨g3, 0, none⟩) n3 cc3) := ⟨_, rfl⟩
      rw [← hx4]
      have hch4 : Chg (fun g => g = q) x3 x4 := by rw [hx4]; exact (Chg.refl _ _).setCell (S := fun g => g = q) (fun _ => rfl) _
      have hb4 : Blk x4 q 36 #[.int .i64 num, .slice (some ⟨g3, 0, none⟩) n3 cc3] := by rw [hx4]; exact HQ3.out.set 1 _
      refine hK.out _ _ (hb4.cell 0) (fun e _ => by exact absurd e (by decide)) ?_
      clear hK K hT c1 f1
      try simp only [Act.put, List.setIfInBounds_toArray, List.set_cons_zero, List.set_cons_succ]
      refine two_done (by kernel_rfl) ?_ _
      have HCH4 := Lib.hid hch4
      have HB4 := Lib.hid hb4
      clear hch4 hb4 hx4
      go_wp2_with fail
      go_ret
      have hz02 := HB02.out.size
      have hz23 := HCH3.out.size
      have hz34 := HCH4.out.size
      have hzB := HB0.out.size
      have hlt3 : ∀ k, (Value.slice (some ⟨g3, 0, none⟩) n3 cc3).ownBlock = some k → B ≤ k ∧ k < x3.heap.size := World.ownsRow.lt HO3.out
      have hcl : ∀ k, (Value.slice px ln pc).ownBlock = some k → x0.heap.size ≤ k ∧ k < x2.heap.size := HO2.out.lt
      have huq : (Value.slice (some ⟨g3, 0, none⟩) n3 cc3).ownBlock ≠ some q := fun e => by
        rcases HU3.out with h | h
        · rw [h] at e; exact HR2.out.uq e
        · rw [h] at e; injection e with e; have := HR2.out.blk.lt; omega
      refine ⟨.slice (some ⟨g3, 0, none⟩) n3 cc3, vals ++ [.slice px ln pc], rfl, ⟨HB4.out, ownsRow_chg HO3.out HCH4.out (fun k hk e => huq (by rw [hk, e])), by rw [List.length_append, List.length_append, HR2.out.len]; rfl, fun i hi hi' => ?_, huq, fun i hi k hk => ?_, HR2.out.qB⟩, ?_, fun k hk => ?_⟩
      · have hch : Chg (fun k => (Value.slice ux un uc).ownBlock = some k ∨ k = q) x2 x4 := (Chg.mono HCH3.out fun k _ e => .inl e).trans (Chg.mono HCH4.out fun k _ e => .inr e)
        by_cases e : i < vals.length
        · rw [List.getElem_append_left e, List.getElem_append_left (by rw [← HR2.out.len]; exact e)]
          exact (HR2.out.each i e (by rw [← HR2.out.len]; exact e)).chg (Z := fun k => k ≠ q ∧ (Value.slice ux un uc).ownBlock ≠ some k) (fun k hk => (HR2.out.inV i e k hk).2.2) hch (fun k hk e => e.elim (fun e => hk.2 e) (fun e => hk.1 e))
        · have hi2 : i = vals.length := by rw [List.length_append, List.length_singleton] at hi; omega
          subst hi2
          rw [List.getElem_append_right (Nat.le_refl _), List.getElem_append_right (by rw [HR2.out.len]; exact Nat.le_refl _)]
          simp only [Nat.sub_self, HR2.out.len, List.getElem_singleton]
          have hqz := HR0.out.blk.lt
          have hul := World.ownsRow.lt HR0.out.own
          exact HO2.out.rd.chg (Z := fun k => x0.heap.size ≤ k) (fun k hk => (hcl k hk).1) hch (fun k hk e => e.elim (fun e => by have := (hul k e).2; omega) (fun e => by omega))
      · by_cases e : i < vals.length
        · rw [List.getElem_append_left e] at hk
          have hv := HR2.out.inV i e k hk
          refine ⟨hv.1, by omega, hv.2.2.1, fun e2 => ?_⟩
          rcases HU3.out with h | h
          · rw [h] at e2; exact hv.2.2.2 e2
          · rw [h] at e2; injection e2 with e2; omega
        · have hi2 : i = vals.length := by rw [List.length_append, List.length_singleton] at hi; omega
          subst hi2
          rw [List.getElem_append_right (Nat.le_refl _)] at hk
          simp only [Nat.sub_self, List.getElem_singleton] at hk
          have hv := hcl k hk
          have hqz := HR0.out.blk.lt
          have hqB := HR2.out.qB
          refine ⟨by omega, by omega, by omega, fun e2 => ?_⟩
          rcases HU3.out with h | h
          · rw [h] at e2; have := (World.ownsRow.lt HR0.out.own k e2).2; omega
          · rw [h] at e2; injection e2 with e2; omega
      · exact (Chg.of_below (HB0.out.trans (HB02.out.mono HB0.out.size))).trans ((Chg.mono HCH3.out fun k _ e => .inr (.inl e)).trans (Chg.mono HCH4.out fun k _ e => .inl e))
      · rcases hk with rfl | hk | ⟨i, hi, hk⟩
        · exact .inl (.inl rfl)
        · rcases HU3.out with h | h
          · rw [h] at hk; exact .inl (.inr (.inl hk))
          · have h2 := (hlt3 k hk).2
            rw [h] at hk; injection hk with hk
            exact .inr ⟨by omega, by omega⟩
        · by_cases e : i < vals.length
          · rw [List.getElem_append_left e] at hk
            exact .inl (.inr (.inr ⟨i, e, hk⟩))
          · have hi2 : i = vals.length := by rw [List.length_append, List.length_singleton] at hi; omega
            subst hi2
            rw [List.getElem_append_right (Nat.le_refl _)] at hk
            simp only [Nat.sub_self, List.getElem_singleton] at hk
            have hv := hcl k hk
            exact .inr ⟨by omega, by omega⟩
end
end Go.Proofs.YtcijhhnbhnaiaaaGreatDoor

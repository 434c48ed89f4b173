/- Two disks beside each other; what an act does to one leaves the other. -/
import Derived.Test.YtnngdflamkdgaaaBegun
namespace Go.Proofs.Ytnngdflamkdgaaa
open Go.RowKit Go.Maps
open Dsk

/-- a is the disk da, b the disk db, both made since w0, in no block of X and in none of the other's. -/
def Twin (w0 : World) (X : Nat → Prop) (w : World) (a b : Value) (da db : Dk) : Prop :=
  ∃ Fa Fb, DiskAt w Fa a da ∧ DiskAt w Fb b db ∧ (∀ k, Fa k → w0.heap.size ≤ k ∧ ¬ X k ∧ ¬ Fb k) ∧ (∀ k, Fb k → w0.heap.size ≤ k ∧ ¬ X k) ∧ (∀ k, X k → k < w.heap.size) ∧ Below w0.heap.size w0 w
section
variable {w0 w w' : World} {X : Nat → Prop} {a b : Value} {da db x : Dk}
theorem Twin.below (h : Twin w0 X w a b da db) : Below w0.heap.size w0 w := by obtain ⟨_, _, _, _, _, _, _, h⟩ := h; exact h
theorem Twin.size (h : Twin w0 X w a b da db) : w0.heap.size ≤ w.heap.size := h.below.size
theorem Twin.swap (h : Twin w0 X w a b da db) : Twin w0 X w b a db da := by
  obtain ⟨Fa, Fb, h1, h2, h3, h4, h5, h6⟩ := h
  exact ⟨Fb, Fa, h2, h1, fun k hk => ⟨(h4 k hk).1, (h4 k hk).2, fun e => (h3 k e).2.2 hk⟩, fun k hk => ⟨(h3 k hk).1, (h3 k hk).2.1⟩, h5, h6⟩
theorem Twin.first (h : Twin w0 X w a b da db) : Live w0 X w a da := by
  obtain ⟨Fa, Fb, h1, h2, h3, h4, h5, h6⟩ := h
  exact ⟨Fa, h1, fun k hk => ⟨(h3 k hk).1, (h3 k hk).2.1⟩, h5, h6⟩
theorem Twin.second (h : Twin w0 X w a b da db) : Live w0 X w b db := h.swap.first
theorem Twin.add (h : Twin w0 X w a b da db) (hb : Below w.heap.size w w') : Twin w0 (Also X w w') w' a b da db := by
  obtain ⟨Fa, Fb, h1, h2, h3, h4, h5, h6⟩ := h
  have hz := hb.size
  have lt1 := fun k hk => h1.lt k hk
  have lt2 := fun k hk => h2.lt k hk
  refine ⟨Fa, Fb, h1.below hb, h2.below hb, fun k hk => ⟨(h3 k hk).1, fun hx => ?_, (h3 k hk).2.2⟩, fun k hk => ⟨(h4 k hk).1, fun hx => ?_⟩, fun k hk => ?_, h6.trans (hb.mono h6.size)⟩
  · rcases hx with hx | hx
    · exact (h3 k hk).2.1 hx
    · have := lt1 k hk; omega
  · rcases hx with hx | hx
    · exact (h4 k hk).2 hx
    · have := lt2 k hk; omega
  · rcases hk with hk | hk
    · have := h5 k hk; omega
    · exact hk.2
theorem Twin.drop (h : Twin w0 X w a b da db) {Y : Nat → Prop} (hY : ∀ k, Y k → X k) : Twin w0 Y w a b da db := by
  obtain ⟨Fa, Fb, h1, h2, h3, h4, h5, h6⟩ := h
  exact ⟨Fa, Fb, h1, h2, fun k hk => ⟨(h3 k hk).1, fun e => (h3 k hk).2.1 (hY k e), (h3 k hk).2.2⟩, fun k hk => ⟨(h4 k hk).1, fun e => (h4 k hk).2 (hY k e)⟩, fun k hk => h5 k (hY k hk), h6⟩
theorem Twin.keep (h : Twin w0 X w a b da db) (hb : Below w.heap.size w w') : Twin w0 X w' a b da db := (h.add hb).drop fun _ hk => .inl hk
theorem Twin.pair {w1 : World} (h1 : Live w0 (fun _ => False) w1 a da) (h2 : Live w1 (fun _ => False) w b db) : Twin w0 (fun _ => False) w a b da db := by
  obtain ⟨Fa, a1, a2, _, a4⟩ := h1
  obtain ⟨Fb, b1, b2, _, b4⟩ := h2
  have hz := a4.size
  have lt1 := fun k hk => a1.lt k hk
  exact ⟨Fa, Fb, a1.below b4, b1, fun k hk => ⟨(a2 k hk).1, id, fun e => by have := (b2 k e).1; have := lt1 k hk; omega⟩, fun k hk => ⟨Nat.le_trans hz (b2 k hk).1, id⟩, fun _ e => e.elim, a4.trans (b4.mono hz)⟩
theorem Twin.on {P : Program} {f : FuncId} {args : Array Value} {Q : Ending → Prop} (h : Twin w0 X w a b da db)
    (hc : ∀ X', (∀ k, X k → X' k) → Live w0 X' w a da → Calls P f args w fun e w' => Q e ∧ Live w0 X' w' a x ∧ Keeps X' w w') :
    Calls P f args w fun e w' => Q e ∧ Twin w0 X w' a b x db ∧ Keeps X w w' := by
  obtain ⟨Fa, Fb, h1, h2, h3, h4, h5, h6⟩ := h
  have lt2 := fun k hk => h2.lt k hk
  refine (hc (fun k => X k ∨ Fb k) (fun _ hk => .inl hk) ⟨Fa, h1, fun k hk => ⟨(h3 k hk).1, fun e => e.elim (h3 k hk).2.1 (h3 k hk).2.2⟩, fun k hk => hk.elim (h5 k) (lt2 k), h6⟩).mono ?_
  rintro e w' ⟨hq, ⟨F', l1, l2, l3, l4⟩, hk⟩
  exact ⟨hq, ⟨F', Fb, l1, h2.chg hk (fun k hk e => e (.inr hk)), fun k hk => ⟨(l2 k hk).1, fun e => (l2 k hk).2 (.inl e), fun e => (l2 k hk).2 (.inr e)⟩, h4, fun k hk => l3 k (.inl hk), l4⟩, hk.mono fun _ e => .inl e⟩
theorem Twin.onB {P : Program} {f : FuncId} {args : Array Value} {Q : Ending → Prop} (h : Twin w0 X w a b da db)
    (hc : ∀ X', (∀ k, X k → X' k) → Live w0 X' w b db → Calls P f args w fun e w' => Q e ∧ Live w0 X' w' b x ∧ Keeps X' w w') :
    Calls P f args w fun e w' => Q e ∧ Twin w0 X w' a b da x ∧ Keeps X w w' :=
  (h.swap.on hc).mono fun _ _ ⟨q, t, k⟩ => ⟨q, t.swap, k⟩
end

/-- A disk that is down has no Fail set. -/
def OffNone (d : Dk) : Prop := d.off = true → d.fail = none
theorem offNone_change {d : Dk} (m : Files) (h : d.off = false) : OffNone (d.change m).2 := by
  unfold Dk.change
  split
  · split
    · exact fun _ => rfl
    · intro e; rw [h] at e; cases e
  · intro e; rw [h] at e; cases e
theorem offNone_step {d : Dk} (h : OffNone d) (a : ActS) : OffNone (stepA d a).2 := by
  unfold stepA
  cases ho : d.off with
  | true =>
    have hf := h ho
    split
    · unfold Dk.sync; rw [if_pos ho]; exact h
    split
    · unfold Dk.rename; rw [if_pos ho]; exact h
    split
    · unfold Dk.remove; rw [if_pos ho]; exact h
    split
    · unfold Dk.crash; rw [if_pos ho]; exact h
    split
    · unfold Dk.start; rw [if_pos ho]; exact fun _ => hf
    split
    · unfold Dk.failAt; rw [if_pos ho]; exact h
    · unfold Dk.append; rw [if_pos ho]; exact h
  | false =>
    have hn : ¬ (d.off = true) := by rw [ho]; decide
    split
    · unfold Dk.sync; rw [if_neg hn]; split
      · exact h
      · exact offNone_change _ ho
    split
    · unfold Dk.rename; rw [if_neg hn]; split
      · exact h
      · split
        · exact h
        · exact offNone_change _ ho
    split
    · unfold Dk.remove; rw [if_neg hn]; split
      · exact h
      · exact offNone_change _ ho
    split
    · unfold Dk.crash; rw [if_neg hn]; exact fun _ => rfl
    split
    · unfold Dk.start; rw [if_neg hn]; exact h
    split
    · unfold Dk.failAt; rw [if_neg hn]; split
      · exact h
      · intro e; exact absurd e hn
    · unfold Dk.append; rw [if_neg hn]
      split
      · exact h
      split
      · exact h
      · exact offNone_change (d := { d with files := _ }) _ ho
theorem offNone_plays {d : Dk} (h : OffNone d) : ∀ l : List ActS, OffNone (playsA d l) := by
  intro l
  induction l generalizing d with
  | nil => exact h
  | cons a r ih => exact ih (offNone_step h a)
/-- The disk that 'ready' leaves. -/
def readyD (d : Dk) : Dk := if d.off then d.start.2 else backUp d d.unsynced
theorem readyD_off (d : Dk) : (readyD d).off = false := by
  unfold readyD
  split
  · rename_i h; unfold Dk.start; rw [if_pos h]
  · rfl
theorem readyD_fail {d : Dk} (h : OffNone d) : (readyD d).fail = none := by
  unfold readyD
  split
  · rename_i e; unfold Dk.start; rw [if_pos e]; exact h e
  · rfl
theorem fail_armed {d : Dk} (h : d.off = false) (n : Int) (hn : 0 ≤ n) (keep : List Int) : d.failAt n keep = (0, armed d n keep) := by
  unfold Dk.failAt
  rw [if_neg (by simp [h]), if_neg (by omega)]; rfl
/-- What is asked of a disk with a Fail behind its crash. -/
theorem crashed_begun {d : Dk} (keep : List Int) : names (d.crashed keep).start.2.files = names d.files ∧
    (∀ (i : Nat) (hi : i < d.files.length) (hi' : i < (d.crashed keep).start.2.files.length), (d.crashed keep).start.2.files[i].2.data = d.files[i].2.data.take (d.crashed keep).start.2.files[i].2.data.length) := by
  refine ⟨cutL_names keep 0 d.files, fun i hi hi' => ?_⟩
  have hg := cutL_get keep 0 d.files i hi hi'
  have e : (d.crashed keep).start.2.files[i] = (d.files[i].1, cutF d.files[i].2 keep[0 + i]?) := hg
  rw [e]
  unfold cutF
  simp only [List.length_take]
  rw [List.take_eq_take_min]

theorem under_two : Try.prog.underlying 66 = some (.array 2 37) := by kernel_rfl
theorem two_cells : Try.prog.cellsOf 66 = 2 := by kernel_rfl
theorem acts_cells1 : Try.prog.cellsOf 37 = 1 := by kernel_rfl
open Go.WideShapes Go.ChangeAt in
set_option maxRecDepth 100000 in
theorem actsOf {H : Type} {enc : TypeId × Value → H} {w : World} {base fuel : Nat} {sp : Nat → Bool} {held : Bool} {v : Value} {y : DataW H × List MemPlace} (h : DataW.trod enc Try.prog w base sp held fuel 37 [v] = some y) :
    ∃ a : Value × List ActS, v = a.1 ∧ RdA w w.heap.size a.1 a.2 ∧ a.2.length ≤ maxLen := by
  have hsh : ∃ a0 len cap, v = .slice a0 len cap := by
    rcases Go.Deep.open_slice acts_under h with ⟨h0, _⟩ | ⟨a', len', cap', m, n, D, Pl, hcs, _⟩
    · simp at h0; exact ⟨_, _, _, h0⟩
    · simp at hcs; exact ⟨_, _, _, hcs⟩
  obtain ⟨a0, len, cap, rfl⟩ := hsh
  obtain ⟨hlm, hnil, hel⟩ := rowOf acts_under act_cells (by rw [act_size]; omega) h
  have hex : ∀ i : Fin len, ∃ a : ActS, ActOk w w.heap.size a ∧ ∃ b off, a0 = some ⟨b, off, none⟩ ∧ b < w.heap.size ∧ ∀ j, j < 6 → w.cell? ⟨b, off + (i * 6 + j), none⟩ = (actCells a)[j]? := fun i => by
    obtain ⟨b, off, cs, n, e, hb, hcl, hc, y, hy⟩ := hel i i.2
    obtain ⟨a, rfl, ho⟩ := actOf hy
    rw [act_size] at hc
    exact ⟨a, ho, b, off, e, hb, hc⟩
  obtain ⟨f, hf⟩ := Classical.axiomOfChoice hex
  refine ⟨(.slice a0 len cap, List.ofFn f), rfl, ⟨a0, cap, by simp, fun j hj => ?_⟩, by simpa using hlm⟩
  have hj' : j < len := by simpa using hj
  obtain ⟨h1, b, off, h2, h3, h4⟩ := hf ⟨j, hj'⟩
  simp only [List.getElem_ofFn]
  exact ⟨h1, b, off, h2, h3, h3, h4⟩
open Go.WideShapes Go.ChangeAt in
set_option maxRecDepth 100000 in
theorem openTwo {H : Type} {enc : TypeId × Value → H} {w : World} {base b0 : Nat} {sp : Nat → Bool} {held : Bool} {r : Reach} {v : Value} {d : DataW H} {p : List MemPlace}
    (hv : Value.okWide Try.prog w r b0 66 v) (h : DataW.Trod enc Try.prog w base sp held 66 v d p) :
    ∃ a : (Value × List ActS) × (Value × List ActS), v = .agg #[a.1.1, a.2.1] ∧ (RdA w w.heap.size a.1.1 a.1.2 ∧ a.1.2.length ≤ maxLen) ∧ (RdA w w.heap.size a.2.1 a.2.2 ∧ a.2.2.length ≤ maxLen) := by
  have hv2 := hv
  simp only [Value.okWide, under_two] at hv2
  obtain ⟨cs, rfl, hsz, hok⟩ := hv2
  obtain ⟨fuel, hf⟩ := h
  obtain ⟨xs, m, _, _, hlen, hxl, hg⟩ := DataW.trod_array under_two hf
  rw [two_cells] at hlen
  obtain ⟨l⟩ := cs
  match l, hlen with
  | [c0, c1], _ =>
    match xs, hxl with
    | [y0, y1], _ =>
      have h0 := hg 0 (by omega)
      have h1 := hg 1 (by omega)
      rw [acts_cells1] at h0 h1
      obtain ⟨a0, e0, r0⟩ := actsOf (v := c0) (show DataW.trod enc Try.prog w base sp held m 37 [c0] = some y0 from by simpa [Value.cells] using h0)
      obtain ⟨a1, e1, r1⟩ := actsOf (v := c1) (show DataW.trod enc Try.prog w base sp held m 37 [c1] = some y1 from by simpa [Value.cells] using h1)
      subst e0 e1
      exact ⟨(a0, a1), rfl, r0, r1⟩
end Go.Proofs.Ytnngdflamkdgaaa

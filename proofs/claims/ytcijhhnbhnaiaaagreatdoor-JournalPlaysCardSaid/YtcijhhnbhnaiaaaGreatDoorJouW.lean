/- Rows of cells appended in a region that draws its order; a disk's failure laid. A file that is cut: plain; rows that grow beside a journal. -/
import Derived.Test.YtcijhhnbhnaiaaaGreatDoorJouU
namespace Go.Proofs.YtcijhhnbhnaiaaaGreatDoor
set_option linter.unusedSimpArgs false
set_option linter.unusedVariables false
set_option maxRecDepth 100000
open Go.RowKit Go.Maps
open Dsk

theorem step_append_cells {ops : Array Oper} {o : Oper} {a : Act} {K : Act → World → Prop} {Q : Exit → Act → World → Prop} {E : Prop} {w : World} (hgd : o.guard = none) (s x : Operand)
    (ho : o.op = .call { callee := .builtin .append, args := #[s, x], argTypes := #[30, 30] })
    (B : Nat) (v : Value) (l : List Jou.Cell) (hs : a.eval s = v) (hown : OwnC w B v l) (y : Value) (m : List Jou.Cell) (hx : a.eval x = y) (hy : RdC w y m) (hl : (l.length + m.length) * 40 ≤ 140737488355328) (hB : B ≤ w.heap.size)
    (h : ∀ v' w', OwnC w' B v' (l ++ m) → Below B w w' → K (a.put o.dst v') w') : if Region.wanted o (yielded ops a.tmps) = true then Oper.wp Tryz.prog o a w K Q else E := by
  have hw : Region.wanted o (yielded ops a.tmps) = true := by simp [Region.wanted, hgd]
  rw [if_pos hw]
  obtain ⟨v', w', h1, h2, h3, h4⟩ := run_append_cells w B v l hown y m hy o.type hl hB
  unfold Oper.wp execOp
  simp only [ho, resolve, invoke, builtin, Sem.run_bind, Sem.run_pure, Result.andThen_ok, List.map_toArray, List.map_cons, List.map_nil, hs, hx, h1]
  exact h v' w' h2 (hown.belowG h3 hB)
section
variable {w0 w w' : World} {X Y S : Nat → Prop} {v : Value} {d d' : Dk} {j n : Nat} {st num : Int} {bad : Bool} {lots : List (List Jou.Cell)} {l : List Jou.Cell} {lv : Value}
theorem Live.failK (h : Live w0 X w v d) (n : Int) (hn : n ≤ 9223372036854775807) (kv0 : Value) (keep : List Int) (hk : KeepR w S kv0 keep) (hkl : keep.length ≤ 1099511627776) {r : Int} (he : d.failAt n keep = (r, d')) :
    Calls Tryz.prog 31 #[v, .int .i64 n, kv0] w fun e w' => e = .returned (.int .i64 r) ∧ Live w0 X w' v d' ∧ Keeps X w w' := by
  refine (h.fail n hn kv0 keep hk hkl).mono fun _ _ x => ?_
  rw [he] at x
  exact x
theorem SureC.new {u : Value} (hj : JS w0 X w v d j st bad num) (h : OwnC w' w.heap.size u l) : SureC w0 (Also X w w') w' j u l :=
  ⟨h.base hj.live.size, fun k hk => ⟨.inr (h.lt k hk), fun e => by have := (h.lt k hk).1; have := hj.blk.lt; omega⟩⟩
/-- A file behind a crash, opened. -/
theorem jopen_torn {k t : Nat} (h : Live w0 X w v d) (hup : d.off = false) (hn : NumOk w0 n) (hok : LotsOk lots k) (hk : k ≤ 40) (hl : LotOk l) (hok1 : LotsOk (lots ++ [l]) (k + 1)) (hfail : d.fail = none) (hroom : d.room = 1048576)
    (hF : d.files = [(jn n, ⟨jText lots ++ (Frm.frame (Jou.enc l)).take t, (jText lots ++ (Frm.frame (Jou.enc l)).take t).length⟩)]) :
    ∃ d' lots', (lots' = lots ∨ lots' = lots ++ [l]) ∧ LotsOk lots' (k + 1) ∧ Calls Tryz.prog 12 #[v, .int .i64 n] w (OpenPost w0 X w v d' d.starts n lots'.flatten) ∧ d'.off = false ∧ JF n lots' d'.files ∧ FOk d' ∧ d'.room = 1048576 ∧ d'.starts = d.starts := by
  by_cases ht : t < (Frm.frame (Jou.enc l)).length
  · have htz : ((Frm.frame (Jou.enc l)).take t).length ≤ 16392 := by
      have := hl.short
      rw [List.length_take, Frm.frame_length]
      omega
    obtain ⟨d', h1, h2, h3, h4, h5, h6⟩ := jopen_JF (fr := n) h hup (.inr hF) hn hn.lo (Nat.le_refl _) hok.ok (torn_none _ hl.short t ht) (fun _ => ⟨hfail, by rw [hroom]; have := hok.text; omega⟩) (fun e => by rw [e, List.append_nil])
    exact ⟨d', lots, .inl rfl, hok.next, h1, h2, h3, (fun m e => by rw [h4, hfail] at e; cases e), by rw [h5, hroom], h6⟩
  · rw [List.take_of_length_le (by omega), ← jText_snoc] at hF
    obtain ⟨d', h1, h2, h3, h4, h5, h6⟩ := jopen_JF (fr := n) (lots := lots ++ [l]) (tail := []) (s := (jText (lots ++ [l])).length) h hup (.inr (by rw [hF, List.append_nil])) hn hn.lo (Nat.le_refl _) hok1.ok nil_none (fun e => absurd rfl e) (fun _ => rfl)
    exact ⟨d', lots ++ [l], .inr rfl, hok1, h1, h2, h3, (fun m e => by rw [h4, hfail] at e; cases e), by rw [h5, hroom], h6⟩
end
end Go.Proofs.YtcijhhnbhnaiaaaGreatDoor
namespace Go.Proofs.YtcijhhnbhnaiaaaGreatDoor
set_option linter.unusedSimpArgs false
set_option linter.unusedVariables false
set_option maxRecDepth 100000
open Go.RowKit Go.Maps
open Dsk

/-! ### plain -/
def endsL (lots : List (List Jou.Cell)) : List Int := (List.range (lots.length + 1)).map fun i => ((jText (lots.take i)).length : Int)
def prefs (lots : List (List Jou.Cell)) : List (List Jou.Cell) := (List.range (lots.length + 1)).map fun i => (lots.take i).flatten
theorem endsL_length (lots : List (List Jou.Cell)) : (endsL lots).length = lots.length + 1 := by simp [endsL]
theorem prefs_length (lots : List (List Jou.Cell)) : (prefs lots).length = lots.length + 1 := by simp [prefs]
theorem endsL_get (lots : List (List Jou.Cell)) (i : Nat) (hi : i < (endsL lots).length) : (endsL lots)[i] = ((jText (lots.take i)).length : Int) := by simp [endsL]
theorem prefs_get (lots : List (List Jou.Cell)) (i : Nat) (hi : i < (prefs lots).length) : (prefs lots)[i] = (lots.take i).flatten := by simp [prefs]
theorem lots_front {α : Type} (lots : List α) (l : α) (i : Nat) (hi : i ≤ lots.length) : (lots ++ [l]).take i = lots.take i := by
  rw [List.take_append, show i - lots.length = 0 by omega]; simp
theorem endsL_snoc (lots : List (List Jou.Cell)) (l : List Jou.Cell) : endsL (lots ++ [l]) = endsL lots ++ [((jText (lots ++ [l])).length : Int)] := by
  unfold endsL
  rw [List.length_append, List.length_singleton, List.range_succ, List.map_append]
  congr 1
  · refine List.map_congr_left fun i hi => ?_
    rw [List.mem_range] at hi
    rw [lots_front _ _ _ (by omega)]
  · simp only [List.map_cons, List.map_nil]
    rw [List.take_of_length_le (by simp)]
theorem prefs_snoc (lots : List (List Jou.Cell)) (l : List Jou.Cell) : prefs (lots ++ [l]) = prefs lots ++ [lots.flatten ++ l] := by
  unfold prefs
  rw [List.length_append, List.length_singleton, List.range_succ, List.map_append]
  congr 1
  · refine List.map_congr_left fun i hi => ?_
    rw [List.mem_range] at hi
    rw [lots_front _ _ _ (by omega)]
  · simp only [List.map_cons, List.map_nil]
    rw [List.take_of_length_le (by simp), List.flatten_append]
    simp
theorem jText_append (a b : List (List Jou.Cell)) : jText (a ++ b) = jText a ++ jText b := by unfold jText; rw [List.flatMap_append]
/-- A file's beginning: whole batches, and none of the next one. -/
theorem cut_at {lots : List (List Jou.Cell)} {at_ k : Nat} (hl : ∀ l ∈ lots, LotOk l) (ha : at_ ≤ lots.length) (h1 : (jText (lots.take at_)).length ≤ k) (h2 : at_ < lots.length → k < (jText (lots.take (at_ + 1))).length) (hk : k ≤ (jText lots).length) :
    ∃ tail, (jText lots).take k = jText (lots.take at_) ++ tail ∧ Frm.nextAt tail = none ∧ tail.length ≤ 16392 := by
  by_cases he : at_ = lots.length
  · subst he
    rw [List.take_of_length_le (Nat.le_refl _)] at h1 ⊢
    exact ⟨[], by rw [List.take_of_length_le (by omega), List.append_nil], nil_none, by simp⟩
  · have hlt : at_ < lots.length := by omega
    have h3 := h2 hlt
    have hlk := hl _ (List.getElem_mem hlt)
    have es : lots.take (at_ + 1) = lots.take at_ ++ [lots[at_]] := List.take_succ_eq_append_getElem hlt
    have ej : jText lots = jText (lots.take at_) ++ (Frm.frame (Jou.enc lots[at_]) ++ jText (lots.drop (at_ + 1))) := by
      rw [← List.append_assoc, ← jText_snoc, ← es, ← jText_append, List.take_append_drop]
    rw [es, jText_snoc, List.length_append] at h3
    refine ⟨(Frm.frame (Jou.enc lots[at_])).take (k - (jText (lots.take at_)).length), ?_, torn_none _ hlk.short _ (by omega), by rw [List.length_take, Frm.frame_length]; have := hlk.short; omega⟩
    rw [ej, List.take_append, List.take_of_length_le h1, List.take_append]
    rw [show k - (jText (lots.take at_)).length - (Frm.frame (Jou.enc lots[at_])).length = 0 by omega, List.take_zero, List.append_nil]
/-- A journal's one file, however much of it is safe. -/
def JFs (n : Nat) (lots : List (List Jou.Cell)) (fs : Files) : Prop := ∃ s, fs = [(jn n, ⟨jText lots, s⟩)]
theorem jApp_two {n : Nat} (hn : n ≤ 2147483647) {d : Dk} {lots : List (List Jou.Cell)} {l : List Jou.Cell} (hoff : d.off = false) (hf : JFs n lots d.files) (hl : Lays l d.room (jText lots).length) (hfail : d.fail = none) :
    ∃ d', jApp d n l = (0, false, d') ∧ d'.off = false ∧ JF n (lots ++ [l]) d'.files ∧ d'.fail = none ∧ d'.room = d.room ∧ d'.starts = d.starts := by
  obtain ⟨s, hf⟩ := hf
  have hq : encQ l = (Jou.enc l, 0) := by unfold encQ; exact if_pos hl.1
  have hne : ¬ l.length = 0 := fun e => hl.2.1 (List.length_eq_zero_iff.1 e)
  obtain ⟨room, starts, off, files, fail, keep⟩ := d
  simp only at hoff hf hl hfail
  subst hoff hf hfail
  have hc : ¬ ((Dsk.get [(jn n, (⟨jText lots, s⟩ : Fl))] (jn n) = none ∧ 1024 ≤ [(jn n, (⟨jText lots, s⟩ : Fl))].length) ∨ room < Dsk.total [(jn n, (⟨jText lots, s⟩ : Fl))] + (Frm.frame (Jou.enc l)).length) := by
    rw [total_one]
    rintro (⟨_, h⟩ | h)
    · simp at h
    · have := hl.2.2.2; simp only at h; omega
  have ha : (⟨room, starts, false, [(jn n, ⟨jText lots, s⟩)], none, keep⟩ : Dk).append (jn n) (Frm.frame (Jou.enc l)) = (0, ⟨room, starts, false, [(jn n, ⟨jText lots ++ Frm.frame (Jou.enc l), s⟩)], none, keep⟩) := by
    unfold Dk.append
    simp only [Bool.false_eq_true, if_false, jn_named hn, not_true_eq_false]
    rw [if_neg hc]
    simp only [get_one, put_one, Option.getD_some, Dk.change]
  unfold jApp
  rw [hq, if_neg (by simp), if_neg hne, if_neg (by have := hl.2.2.1; simp only; omega)]
  simp only [ha, Dk.change, Dk.sync, get_one, ne_eq, not_true_eq_false, if_false, put_one, Bool.false_eq_true]
  exact ⟨_, rfl, rfl, .inr (by rw [jText_snoc]), rfl, rfl, rfl⟩
/-- A new disk, and a file's beginning there. -/
theorem new_one {n : Nat} (hn : n ≤ 2147483647) (t : Str) (ht : t.length ≤ 1048576) : (Dk.new 1048576).append (jn n) t = (0, ⟨1048576, 0, false, [(jn n, ⟨t, 0⟩)], none, []⟩) := by
  unfold Dk.append Dk.new
  have hc : ¬ ((Dsk.get [] (jn n) = none ∧ 1024 ≤ ([] : Files).length) ∨ 1048576 < Dsk.total [] + t.length) := by
    rintro (⟨_, h⟩ | h)
    · simp at h
    · have : Dsk.total [] = 0 := rfl
      omega
  simp only [Bool.false_eq_true, if_false, jn_named hn, not_true_eq_false]
  rw [if_neg hc]
  simp only [Dsk.get, List.find?_nil, Option.map_none, Option.getD_none, List.nil_append, put_nil, Dk.change]
theorem extract_take (t : ByteArray) (k : Nat) : (t.extract 0 k).data.toList = t.data.toList.take k := by
  rw [ByteArray.data_extract]
  simp
/-! ### a file behind a cut, opened -/
section
variable {w0 w w' : World} {X Y S : Nat → Prop} {v : Value} {d d' : Dk} {j n : Nat} {st num : Int} {bad : Bool} {lots : List (List Jou.Cell)} {l : List Jou.Cell} {lv : Value}
theorem jopen_cut {fr s : Nat} {tail : Str} (h : Live w0 X w v d) (hup : d.off = false)
    (hF : d.files = [(jn n, ⟨jText lots ++ tail, s⟩)]) (hn : NumOk w0 n) (hfr : 1 ≤ fr) (hfn : fr ≤ n) (hl : ∀ l ∈ lots, LotOk l) (htl : Frm.nextAt tail = none)
    (hmd : tail ≠ [] → d.fail = none ∧ (jText lots).length + (jText lots).length + tail.length ≤ d.room) :
    ∃ d', Calls Tryz.prog 12 #[v, .int .i64 fr] w (OpenPost w0 X w v d' d.starts n lots.flatten) ∧ d'.off = false ∧ JFs n lots d'.files ∧ d'.fail = d.fail ∧ d'.room = d.room ∧ d'.starts = d.starts := by
  obtain ⟨text, htext⟩ : ∃ text : ByteArray, text = ⟨(jText lots ++ tail).toArray⟩ := ⟨_, rfl⟩
  have htd : text.data.toList = jText lots ++ tail := by rw [htext]
  have htz : text.size = (jText lots).length + tail.length := by
    have : text.size = (jText lots ++ tail).length := by rw [htext]; exact List.size_toArray
    rw [this, List.length_append]
  have hok := h.ok
  have htot : text.size ≤ 1048576 := by
    have h1 := hok.fits
    have h2 := hok.room2
    rw [hF, total_one] at h1
    simp only [List.length_append] at h1
    omega
  have hge := jText_ge lots
  have hrd : d.read (jn n) = (text.data.toList, 0) := by
    unfold Dk.read
    rw [hup, hF, get_one, htd]
    rfl
  have hwh := whole_size text htd hl htl
  have hex : (text.extract 0 (jText lots).length).data.toList = jText lots := by rw [htext]; exact extract_front _ _
  by_cases htn : tail = []
  · subst htn
    refine ⟨d, ?_, hup, ⟨s, by rw [hF, List.append_nil]⟩, rfl, rfl, rfl⟩
    refine jopen_file (n := n) (fr := fr) (d' := d) (lots := lots) h hup (by rw [hF]; rfl) hn (by omega) (by omega) text htot hrd hwh (by omega) (by simp) (by simp; omega) (fun k hk hk' => ?_) (fun l hlm => (hl l hlm).len) (fun hlt => by simp at htz; omega) (fun _ => rfl)
    simp only [List.getElem_map]
    have hk2 := hl _ (List.getElem_mem hk')
    exact ⟨lot_dec hk2, hk2.short⟩
  · have htl0 : 0 < tail.length := List.length_pos_iff.2 htn
    obtain ⟨m1, m2⟩ := hmd htn
    refine ⟨mended d n (jText lots), ?_, hup, ⟨_, rfl⟩, rfl, rfl, rfl⟩
    refine jopen_file (n := n) (fr := fr) (d' := mended d n (jText lots)) (lots := lots) h hup (by rw [hF]; rfl) hn (by omega) (by omega) text htot hrd hwh (by omega) (by simp) (by simp; omega) (fun k hk hk' => ?_) (fun l hlm => (hl l hlm).len) (fun _ => ?_) (fun hlt => absurd (by omega) hlt)
    · simp only [List.getElem_map]
      have hk2 := hl _ (List.getElem_mem hk')
      exact ⟨lot_dec hk2, hk2.short⟩
    · rw [hex]
      exact mend_one hn.hi hup hF m1 (by rw [List.length_append]; omega)
/-! ### rows that grow beside a journal -/
theorem ownsRow_chg {B n0 size : Nat} {e : TypeId} {u : Value} {xs : List Value} (h : w.ownsRow B e size u n0 xs) (x : Chg S w w') (hS : ∀ k, u.ownBlock = some k → ¬ S k) : w'.ownsRow B e size u n0 xs := by
  have hlt := World.ownsRow.lt h
  obtain ⟨h1, h2⟩ := h
  refine ⟨h1, ?_⟩
  rcases h2 with h2 | ⟨g, cap, cur, hv, hg, hh, r⟩
  · exact .inl h2
  · refine .inr ⟨g, cap, cur, hv, hg, ?_, r⟩
    rw [x.block g (hlt g (by rw [hv]; rfl)).2 (hS g (by rw [hv]; rfl)), hh]
/-- Two rows beside a journal: of numbers, and of rows of cells. -/
structure TwoRows (w0 : World) (X : Nat → Prop) (w : World) (j : Nat) (u1 u2 : Value) (es : List Int) (vals : List Value) (ls : List (List Jou.Cell)) : Prop where
  own1 : w.ownsRow w0.heap.size 3 1 u1 es.length (es.map (Value.int .i64))
  own2 : w.ownsRow w0.heap.size 30 1 u2 vals.length vals
  len : vals.length = ls.length
  each : ∀ (i : Nat) (hi : i < vals.length) (hi' : i < ls.length), RdC w vals[i] ls[i]
  in1 : ∀ k, u1.ownBlock = some k → X k ∧ k ≠ j
  in2 : ∀ k, u2.ownBlock = some k → X k ∧ k ≠ j
  inV : ∀ (i : Nat) (hi : i < vals.length) (k : Nat), vals[i].ownBlock = some k → X k ∧ k ≠ j ∧ k < w.heap.size ∧ u1.ownBlock ≠ some k ∧ u2.ownBlock ≠ some k
  apart : ∀ k, u1.ownBlock = some k → u2.ownBlock ≠ some k
section
variable {u1 u2 : Value} {es : List Int} {vals : List Value} {ls : List (List Jou.Cell)}
theorem TwoRows.chg (h : TwoRows w0 X w j u1 u2 es vals ls) (x : Chg S w w') (hS : ∀ k, X k → k ≠ j → ¬ S k) : TwoRows w0 X w' j u1 u2 es vals ls :=
  ⟨ownsRow_chg h.own1 x fun k hk => hS k (h.in1 k hk).1 (h.in1 k hk).2, ownsRow_chg h.own2 x fun k hk => hS k (h.in2 k hk).1 (h.in2 k hk).2, h.len,
   fun i hi hi' => (h.each i hi hi').chg (Z := fun k => X k ∧ k ≠ j) (fun k hk => ⟨(h.inV i hi k hk).1, (h.inV i hi k hk).2.1⟩) x (fun k hk => hS k hk.1 hk.2), h.in1, h.in2,
   fun i hi k hk => ⟨(h.inV i hi k hk).1, (h.inV i hi k hk).2.1, Nat.lt_of_lt_of_le (h.inV i hi k hk).2.2.1 x.size, (h.inV i hi k hk).2.2.2⟩, h.apart⟩
theorem TwoRows.jk (h : TwoRows w0 X w j u1 u2 es vals ls) (x : JK X j w w') : TwoRows w0 X w' j u1 u2 es vals ls := h.chg x fun k h1 h2 e => e.elim (fun e => e h1) h2
theorem TwoRows.below (h : TwoRows w0 X w j u1 u2 es vals ls) (x : Below w.heap.size w w') : TwoRows w0 X w' j u1 u2 es vals ls := h.chg (S := fun _ => False) (Chg.of_below x) fun _ _ _ e => e
theorem TwoRows.mono (h : TwoRows w0 X w j u1 u2 es vals ls) (hXY : ∀ k, X k → Y k) : TwoRows w0 Y w j u1 u2 es vals ls :=
  ⟨h.own1, h.own2, h.len, h.each, fun k hk => ⟨hXY k (h.in1 k hk).1, (h.in1 k hk).2⟩, fun k hk => ⟨hXY k (h.in2 k hk).1, (h.in2 k hk).2⟩, fun i hi k hk => ⟨hXY k (h.inV i hi k hk).1, (h.inV i hi k hk).2⟩, h.apart⟩
/-- A number more. -/
theorem TwoRows.push1 {u1' : Value} {c : Int} (h : TwoRows w0 X w j u1 u2 es vals ls) (hj : j < w.heap.size) (hg : w.grownBy w' u1.ownBlock) (ho : w'.ownsRow w0.heap.size 3 1 u1' (es.length + 1) (es.map (Value.int .i64) ++ [.int .i64 c])) (hb : u1'.ownBlock = u1.ownBlock ∨ u1'.ownBlock = some w.heap.size) :
    TwoRows w0 (Also X w w') w' j u1' u2 (es ++ [c]) vals ls := by
  have x := chg_of_grown hg
  have hlt2 := World.ownsRow.lt h.own2
  refine ⟨by rw [List.length_append, List.map_append]; exact ho, ownsRow_chg h.own2 x (fun k hk e => h.apart k e hk), h.len,
    fun i hi hi' => (h.each i hi hi').chg (Z := fun k => u1.ownBlock ≠ some k) (fun k hk => (h.inV i hi k hk).2.2.2.1) x (fun k hk e => hk e), fun k hk => ?_, fun k hk => ⟨.inl (h.in2 k hk).1, (h.in2 k hk).2⟩, fun i hi k hk => ?_, fun k hk => ?_⟩
  · rcases hb with e | e
    · rw [e] at hk; exact ⟨.inl (h.in1 k hk).1, (h.in1 k hk).2⟩
    · have hlt := (World.ownsRow.lt ho k hk).2
      rw [e] at hk; injection hk with hk; subst hk
      exact ⟨.inr ⟨Nat.le_refl _, hlt⟩, by omega⟩
  · have hv := h.inV i hi k hk
    refine ⟨.inl hv.1, hv.2.1, Nat.lt_of_lt_of_le hv.2.2.1 x.size, fun e2 => ?_, hv.2.2.2.2⟩
    rcases hb with e | e
    · rw [e] at e2; exact hv.2.2.2.1 e2
    · rw [e] at e2; injection e2 with e2; omega
  · rcases hb with e | e
    · rw [e] at hk; exact h.apart k hk
    · rw [e] at hk; injection hk with hk
      intro e2
      have := (hlt2 k e2).2
      omega
/-- A row of cells more. -/
theorem TwoRows.push2 {u2' c : Value} {l : List Jou.Cell} (h : TwoRows w0 X w j u1 u2 es vals ls) (hj : j < w.heap.size) (hg : w.grownBy w' u2.ownBlock) (ho : w'.ownsRow w0.heap.size 30 1 u2' (vals.length + 1) (vals ++ [c])) (hb : u2'.ownBlock = u2.ownBlock ∨ u2'.ownBlock = some w.heap.size)
    (hc : RdC w c l) (hcv : ∀ k, c.ownBlock = some k → X k ∧ k ≠ j ∧ k < w.heap.size ∧ u1.ownBlock ≠ some k ∧ u2.ownBlock ≠ some k) :
    TwoRows w0 (Also X w w') w' j u1 u2' es (vals ++ [c]) (ls ++ [l]) := by
  have x := chg_of_grown hg
  have hlt1 := World.ownsRow.lt h.own1
  have hnew : ∀ k, k < w.heap.size → u2.ownBlock ≠ some k → u2'.ownBlock ≠ some k := fun k hk h2 e2 => by
    rcases hb with e | e
    · rw [e] at e2; exact h2 e2
    · rw [e] at e2; injection e2 with e2; omega
  refine ⟨ownsRow_chg h.own1 x (fun k hk e => h.apart k hk e), by rw [List.length_append]; exact ho, by rw [List.length_append, List.length_append, h.len]; rfl,
    fun i hi hi' => ?_, fun k hk => ⟨.inl (h.in1 k hk).1, (h.in1 k hk).2⟩, fun k hk => ?_, fun i hi k hk => ?_, fun k hk => ?_⟩
  · by_cases e : i < vals.length
    · rw [List.getElem_append_left e, List.getElem_append_left (by rw [← h.len]; exact e)]
      exact (h.each i e (by rw [← h.len]; exact e)).chg (Z := fun k => u2.ownBlock ≠ some k) (fun k hk => (h.inV i e k hk).2.2.2.2) x (fun k hk e => hk e)
    · have hi2 : i = vals.length := by rw [List.length_append, List.length_singleton] at hi; omega
      subst hi2
      rw [List.getElem_append_right (Nat.le_refl _), List.getElem_append_right (by rw [h.len]; exact Nat.le_refl _)]
      simp only [Nat.sub_self, h.len, List.getElem_singleton]
      exact hc.chg (Z := fun k => u2.ownBlock ≠ some k) (fun k hk => (hcv k hk).2.2.2.2) x (fun k hk e => hk e)
  · rcases hb with e | e
    · rw [e] at hk; exact ⟨.inl (h.in2 k hk).1, (h.in2 k hk).2⟩
    · have hlt := (World.ownsRow.lt ho k hk).2
      rw [e] at hk; injection hk with hk; subst hk
      exact ⟨.inr ⟨Nat.le_refl _, hlt⟩, by omega⟩
  · by_cases e : i < vals.length
    · rw [List.getElem_append_left e] at hk
      have hv := h.inV i e k hk
      exact ⟨.inl hv.1, hv.2.1, Nat.lt_of_lt_of_le hv.2.2.1 x.size, hv.2.2.2.1, hnew k hv.2.2.1 hv.2.2.2.2⟩
    · have hi2 : i = vals.length := by rw [List.length_append, List.length_singleton] at hi; omega
      subst hi2
      rw [List.getElem_append_right (Nat.le_refl _)] at hk
      simp only [Nat.sub_self, List.getElem_singleton] at hk
      have hv := hcv k hk
      exact ⟨.inl hv.1, hv.2.1, Nat.lt_of_lt_of_le hv.2.2.1 x.size, hv.2.2.2.1, hnew k hv.2.2.1 hv.2.2.2.2⟩
  · exact hnew k (hlt1 k hk).2 (h.apart k hk)
end
theorem under_lots : Tryz.prog.underlying 58 = some (.slice 30) := by kernel_rfl
theorem Tryz.info_cells : (Tryz.prog.info? 30).map (fun i => (i.zero, i.size, i.bytes)) = some (some (.slice none 0 0), 1, 24) := by kernel_rfl
/-- 'append(ends, k)', beside a journal. -/
theorem wpList_append_end {u1 u2 : Value} {es : List Int} {vals : List Value} {ls : List (List Jou.Cell)} {ops : Array Oper} {rest : List Oper} {o : Oper} {a : Act} {Q : Exit → Act → World → Prop} (hgd : o.guard = none) (s x : Operand)
    (ho : o.op = .call { callee := .builtin .append, args := #[s, x], argTypes := #[37, 37] })
    (hj : JS w0 X w v d j st bad num) (h : TwoRows w0 X w j u1 u2 es vals ls) (hs : a.eval s = u1) (g : Nat) (hx : a.eval x = .slice (some ⟨g, 0, none⟩) 1 1) (c : Int) (hc : w.cell? ⟨g, 0, none⟩ = some (.int .i64 c)) (hl : es.length ≤ 1000)
    (hK : ∀ u' w', TwoRows w0 (Also X w w') w' j u' u2 (es ++ [c]) vals ls → JS w0 (Also X w w') w' v d j st bad num → wpList Tryz.prog ops Q rest (a.put o.dst u') w') : wpList Tryz.prog ops Q (o :: rest) a w := by
  obtain ⟨i0, hi, hz0, hz1, hz2⟩ := info_parts Tryz.info_int
  obtain ⟨u', w', h1, h2, h3, _, h5⟩ := run_append_own_at (P := Tryz.prog) w w0.heap.size 37 o.type 3 i0 (.int .i64 0) 1 8 under_ints hi hz0 hz1 hz2 rfl (by decide) u1 es.length (es.map (Value.int .i64)) h.own1 ⟨g, 0, none⟩ 1 1 [.int .i64 c] rfl (fun j u hj => by
    match j, hj with
    | 0, hj => simp at hj; subst hj; simpa [Addr.add] using hc
    | (n + 1), hj => simp at hj) (fun u hu => by simp at hu; subst hu; rfl) (by unfold maxLen; omega) (by omega) hj.live.size
  have hch := chg_of_grown h3
  exact Lib.wpList_append_run w hgd s x _ _ ho u1 _ hs hx u' w' h1 (hK u' w' (h.push1 hj.blk.lt h3 h2 h5) (hj.addChg hch (fun k hk => ⟨(h.in1 k hk).1, (World.ownsRow.lt h.own1 k hk).1, (h.in1 k hk).2⟩)))
/-- 'append(lots, x)' at a step of a region that draws its order. -/
theorem step_append_lot {u1 u2 : Value} {es : List Int} {vals : List Value} {ls : List (List Jou.Cell)} {ops : Array Oper} {o : Oper} {a : Act} {K : Act → World → Prop} {Q : Exit → Act → World → Prop} {E : Prop} (hgd : o.guard = none) (s x : Operand)
    (ho : o.op = .call { callee := .builtin .append, args := #[s, x], argTypes := #[58, 58] })
    (hj : JS w0 X w v d j st bad num) (h : TwoRows w0 X w j u1 u2 es vals ls) (hs : a.eval s = u2) (g : Nat) (hx : a.eval x = .slice (some ⟨g, 0, none⟩) 1 1) (c : Value) (l : List Jou.Cell) (hc : w.cell? ⟨g, 0, none⟩ = some c) (hl : vals.length ≤ 1000)
    (hrd : RdC w c l) (hcv : ∀ k, c.ownBlock = some k → X k ∧ k ≠ j ∧ k < w.heap.size ∧ u1.ownBlock ≠ some k ∧ u2.ownBlock ≠ some k)
    (hK : ∀ u' w', TwoRows w0 (Also X w w') w' j u1 u' es (vals ++ [c]) (ls ++ [l]) → JS w0 (Also X w w') w' v d j st bad num → K (a.put o.dst u') w') : if Region.wanted o (yielded ops a.tmps) = true then Oper.wp Tryz.prog o a w K Q else E := by
  have hw : Region.wanted o (yielded ops a.tmps) = true := by simp [Region.wanted, hgd]
  rw [if_pos hw]
  obtain ⟨i0, hi, hz0, hz1, hz2⟩ := info_parts Tryz.info_cells
  obtain ⟨cx, cc, hcf⟩ := hrd.form
  obtain ⟨u', w', h1, h2, h3, _, h5⟩ := run_append_own_at (P := Tryz.prog) w w0.heap.size 58 o.type 30 i0 (.slice none 0 0) 1 24 under_lots hi hz0 hz1 hz2 rfl (by decide) u2 vals.length vals h.own2 ⟨g, 0, none⟩ 1 1 [c] rfl (fun j u hj => by
    match j, hj with
    | 0, hj => simp at hj; subst hj; simpa [Addr.add] using hc
    | (n + 1), hj => simp at hj) (fun u hu => by simp at hu; subst hu; rw [hcf]; rfl) (by unfold maxLen; omega) (by omega) hj.live.size
  have hch := chg_of_grown h3
  unfold Oper.wp execOp
  simp only [ho, resolve, invoke, builtin, Sem.run_bind, Sem.run_pure, Result.andThen_ok, List.map_toArray, List.map_cons, List.map_nil, hs, hx, h1]
  exact hK u' w' (h.push2 hj.blk.lt h3 h2 h5 hrd hcv) (hj.addChg hch (fun k hk => ⟨(h.in2 k hk).1, (World.ownsRow.lt h.own2 k hk).1, (h.in2 k hk).2⟩))
end
end Go.Proofs.YtcijhhnbhnaiaaaGreatDoor

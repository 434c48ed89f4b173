/- A journal of one file, opened; rows of cells that grow beside a disk. -/
import Derived.Test.YtcijhhnbhnaiaaaGreatDoorJouS
import Derived.Test.YtcijhhnbhnaiaaaGreatDoorJouJ
import Derived.Test.YtcijhhnbhnaiaaaGreatDoorJouOpen
namespace Go.Proofs.YtcijhhnbhnaiaaaGreatDoor
set_option linter.unusedSimpArgs false
set_option linter.unusedVariables false
set_option maxRecDepth 100000
open Go.RowKit Go.Maps
open Dsk

theorem encC_le {c : Jou.Cell} (h : Jou.May c) (h2 : c.seq < 9223372036854775808) : (Jou.encC c).length ≤ 222 := by
  obtain ⟨_, h3, h4, h5⟩ := h
  have e1 : c.key.data.toList.length = c.key.size := by simp
  have e2 : c.val.data.toList.length = c.val.size := by simp
  have hp : ∀ n : Nat, n < 9223372036854775808 → (Var.put n).length ≤ 9 := fun n hn => Var.put_len_le (by rw [Var.pow9]; omega)
  have l1 := hp c.key.size (by omega)
  have l2 := hp c.val.size (by omega)
  have l3 := hp c.seq.toNat (by omega)
  have es : Ed.pn c.seq = Var.put c.seq.toNat := by
    have : c.seq = ((c.seq.toNat : Nat) : Int) := by omega
    rw [this, Jou.pn_nat]
    congr 1
  unfold Jou.encC Ed.encT
  rw [es]
  simp only [List.length_append, Jou.pn_nat, e1, e2]
  omega
theorem enc_le : ∀ {l : List Jou.Cell}, (∀ c ∈ l, Jou.May c ∧ c.seq < 9223372036854775808) → (Jou.enc l).length ≤ 222 * l.length
  | [], _ => by simp [Jou.enc]
  | c :: l, h => by
    have h1 := encC_le (h c List.mem_cons_self).1 (h c List.mem_cons_self).2
    have h2 := enc_le (l := l) fun x hx => h x (List.mem_cons_of_mem _ hx)
    show (Jou.encC c ++ Jou.enc l).length ≤ _
    rw [List.length_append, List.length_cons]
    omega
theorem jText_ge : ∀ lots : List (List Jou.Cell), 8 * lots.length ≤ (jText lots).length
  | [] => by simp
  | l :: lots => by
    have := jText_ge lots
    rw [jText_cons, List.length_append, Frm.frame_length, List.length_cons]
    omega
theorem draft_before (n : Nat) : bytesBefore jdraft (jn n) = true := by
  obtain ⟨_, b, r, hb, h48⟩ := digits_from n n (Nat.le_refl _)
  unfold jn jdraft
  rw [hb]
  have : (43 : UInt8).toNat < b.toNat := by
    have e : (43 : UInt8).toNat = 43 := by decide
    omega
  have h2 : (43 : UInt8) < b := this
  simp [bytesBefore, h2]
theorem draft_ne (n : Nat) : (jn n == jdraft) = false := by
  rw [beq_eq_false_iff_ne]
  exact jn_draft n
theorem draft_ne' (n : Nat) : (jdraft == jn n) = false := by
  rw [beq_eq_false_iff_ne]
  exact fun e => jn_draft n e.symm
/-- The disk when a torn file was mended. -/
def mended (d : Dk) (n : Nat) (T : Str) : Dk := { d with files := [(jn n, ⟨T, T.length⟩)] }
theorem mend_one {n : Nat} (hn : n ≤ 2147483647) {d : Dk} {T R : Str} {s : Nat} (hoff : d.off = false) (hF : d.files = [(jn n, ⟨R, s⟩)]) (hfail : d.fail = none) (hroom : R.length + T.length ≤ d.room) :
    ∃ d1 d2, d.append jdraft T = (0, d1) ∧ d1.sync jdraft = (0, d2) ∧ d2.rename jdraft (jn n) = (0, mended d n T) := by
  obtain ⟨room, starts, off, files, fail, keep⟩ := d
  simp only at hoff hF hfail hroom
  subst hoff hF hfail
  have hnm := jn_named hn
  have hdn : Named jdraft := by decide
  have g0 : Dsk.get [(jn n, (⟨R, s⟩ : Fl))] jdraft = none := by simp [Dsk.get, draft_ne]
  have p0 : ∀ f, Dsk.put [(jn n, (⟨R, s⟩ : Fl))] jdraft f = [(jdraft, f), (jn n, ⟨R, s⟩)] := fun f => by simp [Dsk.put, Dsk.del, Dsk.ins, draft_ne, draft_before]
  have g1 : ∀ f, Dsk.get [(jdraft, f), (jn n, (⟨R, s⟩ : Fl))] jdraft = some f := fun f => by simp [Dsk.get]
  have p1 : ∀ f g, Dsk.put [(jdraft, f), (jn n, (⟨R, s⟩ : Fl))] jdraft g = [(jdraft, g), (jn n, ⟨R, s⟩)] := fun f g => by simp [Dsk.put, Dsk.del, Dsk.ins, draft_ne, draft_before]
  have d1 : ∀ f, Dsk.del [(jdraft, f), (jn n, (⟨R, s⟩ : Fl))] jdraft = [(jn n, ⟨R, s⟩)] := fun f => by simp [Dsk.del, draft_ne]
  refine ⟨⟨room, starts, false, [(jdraft, ⟨T, 0⟩), (jn n, ⟨R, s⟩)], none, keep⟩, ⟨room, starts, false, [(jdraft, ⟨T, T.length⟩), (jn n, ⟨R, s⟩)], none, keep⟩, ?_, ?_, ?_⟩
  · unfold Dk.append
    have hc : ¬ ((Dsk.get [(jn n, (⟨R, s⟩ : Fl))] jdraft = none ∧ 1024 ≤ [(jn n, (⟨R, s⟩ : Fl))].length) ∨ room < Dsk.total [(jn n, (⟨R, s⟩ : Fl))] + T.length) := by
      rw [total_one]
      rintro (⟨_, h⟩ | h)
      · simp at h
      · simp only at h; omega
    simp only [Bool.false_eq_true, if_false, not_true_eq_false, hdn]
    rw [if_neg hc]
    simp only [g0, p0, Option.getD_none, List.nil_append, Dk.change]
  · unfold Dk.sync
    simp only [Bool.false_eq_true, if_false, g1, p1, Dk.change]
  · unfold Dk.rename mended
    simp only [Bool.false_eq_true, if_false, g1, hnm, not_true_eq_false, d1, put_one, Dk.change]
theorem extract_front (A B : Str) : ((⟨(A ++ B).toArray⟩ : ByteArray).extract 0 A.length).data.toList = A := by
  rw [ByteArray.data_extract]
  simp
section
variable {w0 w w' : World} {X S : Nat → Prop} {v : Value} {d d' : Dk} {j : Nat} {st num : Int} {bad : Bool}
/-- A journal of one file, whatever stands behind its batches. -/
theorem jopen_JF {n fr : Nat} {lots : List (List Jou.Cell)} {tail : Str} {s : Nat} (h : Live w0 X w v d) (hup : d.off = false)
    (hF : (d.files = [] ∧ lots = [] ∧ tail = [] ∧ fr = n) ∨ d.files = [(jn n, ⟨jText lots ++ tail, s⟩)]) (hn : NumOk w0 n) (hfr : 1 ≤ fr) (hfn : fr ≤ n) (hl : ∀ l ∈ lots, LotOk l) (htl : Frm.nextAt tail = none)
    (hmd : tail ≠ [] → d.fail = none ∧ (jText lots).length + (jText lots).length + tail.length ≤ d.room) (hs : tail = [] → s = (jText lots).length) :
    ∃ d', Calls Tryz.prog 12 #[v, .int .i64 fr] w (OpenPost w0 X w v d' d.starts n lots.flatten) ∧ d'.off = false ∧ JF n lots d'.files ∧ d'.fail = d.fail ∧ d'.room = d.room ∧ d'.starts = d.starts := by
  rcases hF with ⟨hF, rfl, rfl, rfl⟩ | hF
  · refine ⟨d, ?_, hup, .inl ⟨hF, rfl⟩, rfl, rfl, rfl⟩
    refine (jopen_new (fr := fr) h hup (by rw [hF]; rfl) (by omega)).mono ?_
    rintro e w' ⟨j, Y, rfl, hY, hj, hb, hjz⟩
    exact ⟨j, _, Y, rfl, hY, hj, OwnC.nil _ _, fun k e => by simp [Value.ownBlock] at e, Keeps.below hb, hjz⟩
  · obtain ⟨text, htext⟩ : ∃ text : ByteArray, text = ⟨(jText lots ++ tail).toArray⟩ := ⟨_, rfl⟩
    have htd : text.data.toList = jText lots ++ tail := by rw [htext]
    have htz : text.size = (jText lots).length + tail.length := by
      have : text.size = (jText lots ++ tail).length := by rw [htext]; exact List.size_toArray
      rw [this, List.length_append]
    have hok := h.ok
    have htot : text.size ≤ 1048576 := by
      have h1 := hok.fits
      have h2 := hok.room2
      rw [hF, total_one] at h1
      simp only [List.length_append] at h1
      omega
    have hge := jText_ge lots
    have hrd : d.read (jn n) = (text.data.toList, 0) := by
      unfold Dk.read
      rw [hup, hF, get_one, htd]
      rfl
    have hwh := whole_size text htd hl htl
    have hex : (text.extract 0 (jText lots).length).data.toList = jText lots := by rw [htext]; exact extract_front _ _
    by_cases htn : tail = []
    · subst htn
      refine ⟨d, ?_, hup, .inr (by rw [hF, hs rfl, List.append_nil]), rfl, rfl, rfl⟩
      refine jopen_file (n := n) (fr := fr) (d' := d) (lots := lots) h hup (by rw [hF]; rfl) hn (by omega) (by omega) text htot hrd hwh (by omega) (by simp) (by simp; omega) (fun k hk hk' => ?_) (fun l hlm => (hl l hlm).len) (fun hlt => by simp at htz; omega) (fun _ => rfl)
      simp only [List.getElem_map]
      have hk2 := hl _ (List.getElem_mem hk')
      exact ⟨lot_dec hk2, hk2.short⟩
    · have htl0 : 0 < tail.length := List.length_pos_iff.2 htn
      obtain ⟨m1, m2⟩ := hmd htn
      refine ⟨mended d n (jText lots), ?_, hup, .inr rfl, rfl, rfl, rfl⟩
      refine jopen_file (n := n) (fr := fr) (d' := mended d n (jText lots)) (lots := lots) h hup (by rw [hF]; rfl) hn (by omega) (by omega) text htot hrd hwh (by omega) (by simp) (by simp; omega) (fun k hk hk' => ?_) (fun l hlm => (hl l hlm).len) (fun _ => ?_) (fun hlt => absurd (by omega) hlt)
      · simp only [List.getElem_map]
        have hk2 := hl _ (List.getElem_mem hk')
        exact ⟨lot_dec hk2, hk2.short⟩
      · rw [hex]
        exact mend_one hn.hi hup hF m1 (by rw [List.length_append]; omega)
theorem chg_of_grown {own : Option Nat} (hg : w.grownBy w' own) : Chg (fun k => own = some k) w w' := ⟨hg.os, hg.tape, hg.output, hg.size, fun k hk hne => hg.block k hk (fun e => hne e.symm)⟩
theorem Live.addChg (h : Live w0 X w v d) (x : Chg S w w') (hX : ∀ k, S k → X k ∧ w0.heap.size ≤ k) : Live w0 (Also X w w') w' v d := by
  obtain ⟨F, h1, h2, h3, h4⟩ := h
  refine ⟨F, h1.chg x (fun k hk hs => (h2 k hk).2 (hX k hs).1), fun k hk => ⟨(h2 k hk).1, fun hx => ?_⟩, fun k hk => ?_, h4.trans (x.below h4.size (fun k hk hs => by have := (hX k hs).2; omega))⟩
  · rcases hx with hx | hx
    · exact (h2 k hk).2 hx
    · have := h1.lt k hk; omega
  · rcases hk with hk | hk
    · exact Nat.lt_of_lt_of_le (h3 k hk) x.size
    · exact hk.2
theorem JS.addChg (h : JS w0 X w v d j st bad num) (x : Chg S w w') (hX : ∀ k, S k → X k ∧ w0.heap.size ≤ k ∧ k ≠ j) : JS w0 (Also X w w') w' v d j st bad num :=
  ⟨h.live.addChg x (fun k hk => ⟨(hX k hk).1, (hX k hk).2.1⟩), h.blk.chg x (fun e => (hX j e).2.2 rfl), .inl h.inX, h.new⟩
/-- A row of cells of the law's own, beside a journal. -/
structure SureC (w0 : World) (X : Nat → Prop) (w : World) (j : Nat) (u : Value) (l : List Jou.Cell) : Prop where
  own : OwnC w w0.heap.size u l
  inX : ∀ k, u.ownBlock = some k → X k ∧ k ≠ j
theorem SureC.jk {u : Value} {l : List Jou.Cell} (h : SureC w0 X w j u l) (x : JK X j w w') : SureC w0 X w' j u l :=
  ⟨h.own.chg x (fun k hk e => e.elim (fun e => e (h.inX k hk).1) (fun e => (h.inX k hk).2 e)), h.inX⟩
theorem SureC.below {u : Value} {l : List Jou.Cell} (h : SureC w0 X w j u l) (x : Below w.heap.size w w') : SureC w0 X w' j u l := ⟨h.own.kept x, h.inX⟩
theorem SureC.keeps {u : Value} {l : List Jou.Cell} (h : SureC w0 X w j u l) (x : Keeps X w w') : SureC w0 X w' j u l := ⟨h.own.chg x (fun k hk e => e (h.inX k hk).1), h.inX⟩
theorem SureC.mono {u : Value} {l : List Jou.Cell} {Y : Nat → Prop} (h : SureC w0 X w j u l) (x : ∀ k, X k → Y k) : SureC w0 Y w j u l := ⟨h.own, fun k hk => ⟨x k (h.inX k hk).1, (h.inX k hk).2⟩⟩
/-- 'append(sure, x...)', beside a journal. -/
theorem wpList_append_sure {ops : Array Oper} {rest : List Oper} {o : Oper} {a : Act} {Q : Exit → Act → World → Prop} (hgd : o.guard = none) (s x : Operand)
    (ho : o.op = .call { callee := .builtin .append, args := #[s, x], argTypes := #[30, 30] })
    (hj : JS w0 X w v d j st bad num) (u : Value) (l : List Jou.Cell) (hs : a.eval s = u) (hown : SureC w0 X w j u l) (y : Value) (m : List Jou.Cell) (hx : a.eval x = y) (hy : RdC w y m) (hl : (l.length + m.length) * 40 ≤ 140737488355328)
    (h : ∀ u' w', SureC w0 (Also X w w') w' j u' (l ++ m) → JS w0 (Also X w w') w' v d j st bad num → wpList Tryz.prog ops Q rest (a.put o.dst u') w') : wpList Tryz.prog ops Q (o :: rest) a w := by
  obtain ⟨u', w', h1, h2, h3, h4⟩ := run_append_cells w w0.heap.size u l hown.own y m hy o.type hl hj.live.size
  have hch := chg_of_grown h3
  have hj' := hj.addChg hch (fun k hk => ⟨(hown.inX k hk).1, (hown.own.lt k hk).1, (hown.inX k hk).2⟩)
  refine Lib.wpList_append_run w hgd s x _ _ ho u y hs hx u' w' h1 (h u' w' ⟨h2, fun k hk => ?_⟩ hj')
  rcases h4 with h4 | h4
  · rw [h4] at hk
    exact ⟨.inl (hown.inX k hk).1, (hown.inX k hk).2⟩
  · rw [h4] at hk
    injection hk with hk
    subst hk
    exact ⟨.inr ⟨Nat.le_refl _, (h2.lt _ h4).2⟩, fun e => by have := hj.blk.lt; omega⟩
end
end Go.Proofs.YtcijhhnbhnaiaaaGreatDoor

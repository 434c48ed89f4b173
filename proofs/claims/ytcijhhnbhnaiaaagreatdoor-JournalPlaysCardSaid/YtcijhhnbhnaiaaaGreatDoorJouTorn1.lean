/- 'JournalTorn', walked: the first loop's parts. -/
import Derived.Test.YtcijhhnbhnaiaaaGreatDoorJouW
namespace Go.Proofs.YtcijhhnbhnaiaaaGreatDoor
set_option linter.unusedSimpArgs false
set_option linter.unusedVariables false
set_option maxRecDepth 100000
open Go.RowKit Go.Maps
open Dsk

/-- 'append(v, x...)', guarded. -/
theorem wpList_append_cellsW {ops : Array Oper} {rest : List Oper} {o : Oper} {a : Act} {Q : Exit → Act → World → Prop} {w : World} (hw : Region.wanted o (yielded ops a.tmps) = true) (s x : Operand)
    (ho : o.op = .call { callee := .builtin .append, args := #[s, x], argTypes := #[30, 30] })
    (B : Nat) (v : Value) (l : List Jou.Cell) (hs : a.eval s = v) (hown : OwnC w B v l) (y : Value) (m : List Jou.Cell) (hx : a.eval x = y) (hy : RdC w y m) (hl : (l.length + m.length) * 40 ≤ 140737488355328) (hB : B ≤ w.heap.size)
    (h : ∀ v' w', OwnC w' B v' (l ++ m) → Below B w w' → wpList Tryz.prog ops Q rest (a.put o.dst v') w') : wpList Tryz.prog ops Q (o :: rest) a w := by
  obtain ⟨v', w', h1, h2, h3, _⟩ := run_append_cells w B v l hown y m hy o.type hl hB
  unfold wpList
  rw [if_pos hw]
  exact .inl (Lib.wp_append_run w s x _ _ ho v y hs hx v' w' h1 (h v' w' h2 (hown.belowG h3 hB)))
theorem flat_take (lots : List (List Jou.Cell)) (a : Nat) : (lots.take a).flatten.length ≤ lots.flatten.length := by
  have e : lots.flatten = (lots.take a).flatten ++ (lots.drop a).flatten := by rw [← List.flatten_append, List.take_append_drop]
  rw [e, List.length_append]
  omega
theorem two_ok : LotOk [jc1, jc2] := ⟨jmay, by show jb1.length ≤ 16384; rw [jlen.2.2.1]; decide, by decide⟩
theorem two_lays {room used : Nat} (h : used + 17 ≤ room) : Lays [jc1, jc2] room used := ⟨fun c hc => (jmay c hc).1, by simp, two_ok.short, by show used + jt1.length ≤ room; rw [jlen.1]; exact h⟩
theorem endsL_nil : endsL [] = [0] := rfl
theorem prefs_nil : prefs [] = [[]] := rfl
theorem ownsRow_form {w : World} {base size n : Nat} {e : TypeId} {v : Value} {xs : List Value} (h : w.ownsRow base e size v n xs) (hn : 0 < n) : ∃ g cap, v = .slice (some ⟨g, 0, none⟩) n cap ∧ base ≤ g ∧ g < w.heap.size := by
  have hlt := World.ownsRow.lt h
  rcases h.2 with ⟨_, h0⟩ | ⟨g, cap, cur, hv, hb, hg, _⟩
  · omega
  · exact ⟨g, cap, hv, hb, (hlt g (by rw [hv]; rfl)).2⟩
/-- What holds behind so many acts. -/
def TornInv (w0 wr : World) (vd : Value) (j k : Nat) (u1 u2 : Value) : Prop := ∃ lots d Y vals, JS w0 Y wr vd d j 0 false 1 ∧ TwoRows w0 Y wr j u1 u2 (endsL lots) vals (prefs lots) ∧ d.off = false ∧ d.starts = 0 ∧ JF 1 lots d.files ∧ LotsOk lots k ∧ d.fail = none ∧ d.room = 1048576 ∧ lots.length ≤ k
section
variable {w0 w w' : World} {X Y S : Nat → Prop} {v : Value} {d d' : Dk} {j n : Nat} {st num : Int} {bad : Bool} {lots : List (List Jou.Cell)} {l : List Jou.Cell} {lv : Value}
theorem torn_init (hj : JS w0 Y w v d j 0 false 1) (hoff : d.off = false) (hst : d.starts = 0) (hF : d.files = []) (hfail : d.fail = none) (hroom : d.room = 1048576) :
    TornInv w0 ((w.alloc (.cells #[.int .i64 0] 3 (0, 0))).alloc (.cells #[.slice none 0 0] 30 (0, 0))) v j 0 (.slice (some ⟨w.heap.size, 0, none⟩) 1 1) (.slice (some ⟨w.heap.size + 1, 0, none⟩) 1 1) := by
  obtain ⟨wa, hwa⟩ : ∃ wa, wa = w.alloc (.cells #[.int .i64 0] 3 (0, 0)) := ⟨_, rfl⟩
  obtain ⟨wb, hwb⟩ : ∃ wb, wb = wa.alloc (.cells #[.slice none 0 0] 30 (0, 0)) := ⟨_, rfl⟩
  rw [← hwa, ← hwb]
  have hz := hj.live.size
  have ha : Below w.heap.size w wa := by rw [hwa]; exact (Below.refl _ _).alloc (Nat.le_refl _) _
  have hb : Below wa.heap.size wa wb := by rw [hwb]; exact (Below.refl _ _).alloc (Nat.le_refl _) _
  have haz : wa.heap.size = w.heap.size + 1 := by rw [hwa]; exact Array.size_push _
  have hbz : wb.heap.size = w.heap.size + 2 := by rw [hwb]; exact (Array.size_push _).trans (by rw [haz])
  have hab : Below w.heap.size w wb := ha.trans (hb.mono ha.size)
  rw [← haz]
  have h1 : wa.ownsRow w0.heap.size 3 1 (.slice (some ⟨w.heap.size, 0, none⟩) 1 1) 1 [.int .i64 0] := by rw [hwa]; exact World.ownsRow_lit w #[.int .i64 0] 1 hz (by unfold maxLen; decide) rfl
  have h2 : wb.ownsRow w0.heap.size 30 1 (.slice (some ⟨wa.heap.size, 0, none⟩) 1 1) 1 [.slice none 0 0] := by rw [hwb]; exact World.ownsRow_lit wa #[.slice none 0 0] 1 (by omega) (by unfold maxLen; decide) rfl
  refine ⟨[], d, Also Y w wb, [.slice none 0 0], hj.add hab, ⟨?_, h2, rfl, fun i hi hi' => ?_, fun k hk => ?_, fun k hk => ?_, fun i hi k hk => ?_, fun k hk => ?_⟩, hoff, hst, .inl ⟨hF, rfl⟩, LotsOk.nil, hfail, hroom, Nat.le_refl _⟩
  · exact ownsRow_chg h1 (S := fun _ => False) (Chg.of_below hb) (fun _ _ e => e)
  · obtain rfl : i = 0 := by simp at hi; omega
    exact RdC.nil wb
  · have e : w.heap.size = k := by simpa [Value.ownBlock] using hk
    have := hj.blk.lt
    exact ⟨.inr ⟨by omega, by omega⟩, by omega⟩
  · have e : wa.heap.size = k := by simpa [Value.ownBlock] using hk
    have := hj.blk.lt
    exact ⟨.inr ⟨by omega, by omega⟩, by omega⟩
  · obtain rfl : i = 0 := by simp at hi; omega
    simp [Value.ownBlock] at hk
  · have e : w.heap.size = k := by simpa [Value.ownBlock] using hk
    intro e2
    have e3 : wa.heap.size = k := by simpa [Value.ownBlock] using e2
    omega
/-- A batch laid, or nothing: no disk that fails. -/
theorem japp_plain {k : Nat} (h : JS w0 X w v d j st false n) (hup : d.off = false) (hst : d.starts = st) (hn : NumOk w0 n) (hl : RdC w lv l) (h20 : Lot20 l) (hf : JF n lots d.files) (hfail : d.fail = none) (hok : LotsOk lots k) :
    Calls Tryz.prog 20 #[.pointer (some ⟨j, 0, none⟩), lv] w fun e w' => ∃ r d', e = .returned (.int .i64 r) ∧ JS w0 X w' v d' j st false n ∧ JK X j w w' ∧
      ((r = 0 ∧ l ≠ [] ∧ d'.off = false ∧ d'.starts = d.starts ∧ JF n (lots ++ [l]) d'.files ∧ LotsOk (lots ++ [l]) (k + 1) ∧ d'.fail = none ∧ d'.room = d.room) ∨ ((r ≠ 0 ∨ (r = 0 ∧ l = [])) ∧ d' = d)) := by
  refine (japp_any h hup hst hn hl (by have := h20.len; omega) h20.seq).mono ?_
  rintro e w' ⟨rfl, hj, hk⟩
  by_cases hL : Lays l d.room (jText lots).length
  · rcases jApp_lays hn.hi hup hf hL (fun m e => by rw [hfail] at e; cases e) with ⟨d', h1, h2, h3, h4, _, h5, h6⟩ | ⟨h0, _⟩
    · rw [h1] at hj ⊢
      exact ⟨0, d', rfl, hj, hk, .inl ⟨rfl, hL.2.1, h2, h6, h3, hok.snoc h20 hL.1, h4 hfail, h5⟩⟩
    · exact absurd hfail h0
  · obtain ⟨r, h1, h2, h3⟩ := jApp_not hn.hi hup hf hL
    rw [h1] at hj ⊢
    refine ⟨r, d, rfl, hj, hk, .inr ⟨?_, rfl⟩⟩
    by_cases hr : r = 0
    · exact .inr ⟨hr, h2 hr⟩
    · exact .inl hr
/-- How many bytes a journal has. -/
theorem jsize_JF (h : JS w0 X w v d j st false num) (hup : d.off = false) (hst : d.starts = st) (hn : NumOk w0 n) (hne : lots ≠ []) (hf : JF n lots d.files) :
    Calls Tryz.prog 27 #[.pointer (some ⟨j, 0, none⟩)] w fun e w' => e = .returned (.int .i64 ((jText lots).length : Nat)) ∧ Below w.heap.size w w' := by
  have hF : d.files = [(jn n, ⟨jText lots, (jText lots).length⟩)] := by
    rcases hf with ⟨_, e⟩ | e
    · exact absurd e hne
    · exact e
  have hz : (⟨(jText lots).toArray⟩ : ByteArray).size = (jText lots).length := List.size_toArray
  have hok := h.live.ok
  have hle : (jText lots).length ≤ 1048576 := by
    have h1 := hok.fits
    have h2 := hok.room2
    rw [hF, total_one] at h1
    simp only at h1
    omega
  have hs := jsize_any (ns := [n]) (ts := [⟨(jText lots).toArray⟩]) h hup hst (by rw [hF]; rfl) (by simp) (fun m hm => by obtain rfl : m = n := (by simpa using hm); exact hn) rfl (fun t ht => by
    obtain rfl : t = ⟨(jText lots).toArray⟩ := by simpa using ht
    rw [hz]; exact hle) (fun k hk hk' => by
    obtain rfl : k = 0 := by simp at hk; omega
    show d.read (jn n) = _
    unfold Dk.read
    rw [hup, hF, get_one]
    rfl)
  have e : tsum [⟨(jText lots).toArray⟩] = ((jText lots).length : Nat) := by
    unfold tsum
    simp only [List.map_cons, List.map_nil, List.sum_cons, List.sum_nil]
    rw [hz]; omega
  rw [e] at hs
  exact hs
/-- The same, however much of the file is safe. -/
theorem jsize_JFs (h : JS w0 X w v d j st false num) (hup : d.off = false) (hst : d.starts = st) (hn : NumOk w0 n) (hf : JFs n lots d.files) :
    Calls Tryz.prog 27 #[.pointer (some ⟨j, 0, none⟩)] w fun e w' => e = .returned (.int .i64 ((jText lots).length : Nat)) ∧ Below w.heap.size w w' := by
  obtain ⟨s, hF⟩ := hf
  have hz : (⟨(jText lots).toArray⟩ : ByteArray).size = (jText lots).length := List.size_toArray
  have hok := h.live.ok
  have hle : (jText lots).length ≤ 1048576 := by
    have h1 := hok.fits
    have h2 := hok.room2
    rw [hF, total_one] at h1
    simp only at h1
    omega
  have hs := jsize_any (ns := [n]) (ts := [⟨(jText lots).toArray⟩]) h hup hst (by rw [hF]; rfl) (by simp) (fun m hm => by obtain rfl : m = n := (by simpa using hm); exact hn) rfl (fun t ht => by
    obtain rfl : t = ⟨(jText lots).toArray⟩ := by simpa using ht
    rw [hz]; exact hle) (fun k hk hk' => by
    obtain rfl : k = 0 := by simp at hk; omega
    show d.read (jn n) = _
    unfold Dk.read
    rw [hup, hF, get_one]
    rfl)
  have e : tsum [⟨(jText lots).toArray⟩] = ((jText lots).length : Nat) := by
    unfold tsum
    simp only [List.map_cons, List.map_nil, List.sum_cons, List.sum_nil]
    rw [hz]; omega
  rw [e] at hs
  exact hs
theorem TwoRows.getL {u1 : Value} {lb vn c i : Nat} {es : List Int} {vals : List Value} (h : TwoRows w0 X w j u1 (.slice (some ⟨lb, 0, none⟩) vn c) es vals (prefs lots)) (hi : i ≤ lots.length) :
    ∃ x, w.cell? ⟨lb, i, none⟩ = some x ∧ RdC w x (lots.take i).flatten := by
  have hl : i < vals.length := by rw [h.len, prefs_length]; omega
  have hl2 : i < (prefs lots).length := by rw [prefs_length]; omega
  have h1 := World.ownsRow.cells h.own2 (g := lb) rfl i vals[i] (List.getElem?_eq_getElem hl)
  rw [add_none, Nat.zero_add] at h1
  have h2 := h.each i hl hl2
  rw [prefs_get] at h2
  exact ⟨_, h1, h2⟩
theorem TwoRows.getE {u2 : Value} {eb en c i : Nat} {vals : List Value} (h : TwoRows w0 X w j (.slice (some ⟨eb, 0, none⟩) en c) u2 (endsL lots) vals (prefs lots)) (hi : i ≤ lots.length) :
    w.cell? ⟨eb, i, none⟩ = some (.int .i64 ((jText (lots.take i)).length : Nat)) := by
  have hl : i < (endsL lots).length := by rw [endsL_length]; omega
  have h1 := World.ownsRow.cells h.own1 (g := eb) rfl i (.int .i64 (endsL lots)[i]) (by rw [List.getElem?_map, List.getElem?_eq_getElem hl]; rfl)
  rw [add_none, Nat.zero_add, endsL_get] at h1
  exact h1
end
end Go.Proofs.YtcijhhnbhnaiaaaGreatDoor

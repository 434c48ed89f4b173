/- Rows of cells appended in a region that draws its order; a disk's failure laid. -/
import Derived.Test.YtcijhhnbhnaiaaaGreatDoorJouU
namespace Go.Proofs.YtcijhhnbhnaiaaaGreatDoor
set_option linter.unusedSimpArgs false
set_option linter.unusedVariables false
set_option maxRecDepth 100000
open Go.RowKit Go.Maps
open Dsk

theorem step_append_cells {ops : Array Oper} {o : Oper} {a : Act} {K : Act → World → Prop} {Q : Exit → Act → World → Prop} {E : Prop} {w : World} (hgd : o.guard = none) (s x : Operand)
    (ho : o.op = .call { callee := .builtin .append, args := #[s, x], argTypes := #[30, 30] })
    (B : Nat) (v : Value) (l : List Jou.Cell) (hs : a.eval s = v) (hown : OwnC w B v l) (y : Value) (m : List Jou.Cell) (hx : a.eval x = y) (hy : RdC w y m) (hl : (l.length + m.length) * 40 ≤ 140737488355328) (hB : B ≤ w.heap.size)
    (h : ∀ v' w', OwnC w' B v' (l ++ m) → Below B w w' → K (a.put o.dst v') w') : if Region.wanted o (yielded ops a.tmps) = true then Oper.wp Tryz.prog o a w K Q else E := by
  have hw : Region.wanted o (yielded ops a.tmps) = true := by simp [Region.wanted, hgd]
  rw [if_pos hw]
  obtain ⟨v', w', h1, h2, h3, h4⟩ := run_append_cells w B v l hown y m hy o.type hl hB
  unfold Oper.wp execOp
  simp only [ho, resolve, invoke, builtin, Sem.run_bind, Sem.run_pure, Result.andThen_ok, List.map_toArray, List.map_cons, List.map_nil, hs, hx, h1]
  exact h v' w' h2 (hown.belowG h3 hB)
section
variable {w0 w w' : World} {X Y S : Nat → Prop} {v : Value} {d d' : Dk} {j n : Nat} {st num : Int} {bad : Bool} {lots : List (List Jou.Cell)} {l : List Jou.Cell} {lv : Value}
theorem Live.failK (h : Live w0 X w v d) (n : Int) (hn : n ≤ 9223372036854775807) (kv0 : Value) (keep : List Int) (hk : KeepR w S kv0 keep) (hkl : keep.length ≤ 1099511627776) {r : Int} (he : d.failAt n keep = (r, d')) :
    Calls Tryz.prog 31 #[v, .int .i64 n, kv0] w fun e w' => e = .returned (.int .i64 r) ∧ Live w0 X w' v d' ∧ Keeps X w w' := by
  refine (h.fail n hn kv0 keep hk hkl).mono fun _ _ x => ?_
  rw [he] at x
  exact x
theorem SureC.new {u : Value} (hj : JS w0 X w v d j st bad num) (h : OwnC w' w.heap.size u l) : SureC w0 (Also X w w') w' j u l :=
  ⟨h.base hj.live.size, fun k hk => ⟨.inr (h.lt k hk), fun e => by have := (h.lt k hk).1; have := hj.blk.lt; omega⟩⟩
/-- A file behind a crash, opened. -/
theorem jopen_torn {k t : Nat} (h : Live w0 X w v d) (hup : d.off = false) (hn : NumOk w0 n) (hok : LotsOk lots k) (hk : k ≤ 40) (hl : LotOk l) (hok1 : LotsOk (lots ++ [l]) (k + 1)) (hfail : d.fail = none) (hroom : d.room = 1048576)
    (hF : d.files = [(jn n, ⟨jText lots ++ (Frm.frame (Jou.enc l)).take t, (jText lots ++ (Frm.frame (Jou.enc l)).take t).length⟩)]) :
    ∃ d' lots', (lots' = lots ∨ lots' = lots ++ [l]) ∧ LotsOk lots' (k + 1) ∧ Calls Tryz.prog 12 #[v, .int .i64 n] w (OpenPost w0 X w v d' d.starts n lots'.flatten) ∧ d'.off = false ∧ JF n lots' d'.files ∧ FOk d' ∧ d'.room = 1048576 ∧ d'.starts = d.starts := by
  by_cases ht : t < (Frm.frame (Jou.enc l)).length
  · have htz : ((Frm.frame (Jou.enc l)).take t).length ≤ 16392 := by
      have := hl.short
      rw [List.length_take, Frm.frame_length]
      omega
    obtain ⟨d', h1, h2, h3, h4, h5, h6⟩ := jopen_JF (fr := n) h hup (.inr hF) hn hn.lo (Nat.le_refl _) hok.ok (torn_none _ hl.short t ht) (fun _ => ⟨hfail, by rw [hroom]; have := hok.text; omega⟩) (fun e => by rw [e, List.append_nil])
    exact ⟨d', lots, .inl rfl, hok.next, h1, h2, h3, (fun m e => by rw [h4, hfail] at e; cases e), by rw [h5, hroom], h6⟩
  · rw [List.take_of_length_le (by omega), ← jText_snoc] at hF
    obtain ⟨d', h1, h2, h3, h4, h5, h6⟩ := jopen_JF (fr := n) (lots := lots ++ [l]) (tail := []) (s := (jText (lots ++ [l])).length) h hup (.inr (by rw [hF, List.append_nil])) hn hn.lo (Nat.le_refl _) hok1.ok nil_none (fun e => absurd rfl e) (fun _ => rfl)
    exact ⟨d', lots ++ [l], .inr rfl, hok1, h1, h2, h3, (fun m e => by rw [h4, hfail] at e; cases e), by rw [h5, hroom], h6⟩
end
end Go.Proofs.YtcijhhnbhnaiaaaGreatDoor

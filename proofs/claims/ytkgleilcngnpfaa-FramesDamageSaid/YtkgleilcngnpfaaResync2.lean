/- Where the next frame stands: the loop over the places, left at the first one. -/
import Derived.Test.YtkgleilcngnpfaaResync
namespace Go.Proofs.Ytkgleilcngnpfaa
open Go.RowKit

attribute [local go_sem] Oper.semAt_some

theorem chg_putObj {S : Nat → Prop} {a w : World} (h : Chg S a w) (l : Nat) (o : Obj) (hl : l < a.heap.size → S l) : Chg S a (w.putObj l o) :=
  ⟨h.os, h.tape, h.output, by rw [World.putObj_size]; exact h.size, fun i hi hs => by
    rw [World.putObj_heap_other (fun e => hs (by rw [e]; exact hl (by omega)))]
    exact h.block i hi hs⟩

theorem blk_putObj {w : World} {b l : Nat} {t : TypeId} {cs : Array Value} (h : Blk w b t cs) (o : Obj) (hne : b ≠ l) : Blk (w.putObj l o) b t cs := by
  unfold Blk at *
  rw [World.putObj_heap_other hne]; exact h
theorem below_putObj {B : Nat} {a w : World} (h : Below B a w) (l : Nat) (o : Obj) (hl : B ≤ l) : Below B a (w.putObj l o) :=
  ⟨h.os, h.tape, h.output, by rw [World.putObj_size]; exact h.size, fun i hi => by rw [World.putObj_heap_other (by omega)]; exact h.block i hi⟩

set_option maxHeartbeats 400000 in
theorem places_any (s : ByteArray) (k0 : Int) (w : World) :
    Calls Try.prog 29 #[.string s, .int .i64 k0] w fun e w' => e = .returned (.func (.func 32) #[] #[.pointer (some ⟨w.heap.size + 1, 0, none⟩), .pointer (some ⟨w.heap.size, 0, none⟩)]) ∧
      (w.alloc (.cells #[.string s] 9)).alloc (.cells #[.int .i64 k0] 3) = w' := by
  go_enter Try.func29, Try.ntmps29
  go_wp2
  go_ret
  exact ⟨rfl, rfl⟩

set_option maxRecDepth 100000 in
set_option maxHeartbeats 1000000 in
theorem resync_any (s : ByteArray) (k0 : Int) (w : World) (hm : s.size ≤ 140737488355328) (hb : -9223372036854775808 ≤ k0 ∧ k0 ≤ 9223372036854775807) :
    Calls Try.prog 17 #[.string s, .int .i64 k0] w fun e w' => e = .returned (.int .i64 (Frm.resync s.data.toList k0.toNat)) ∧ Below w.heap.size w w' := by
  refine (callsIn_wide (n := 10)).1 ?_
  refine callsIn_of_wp_marks Try.func17 rfl trivial ?_ rfl
  simp only [Try.ntmps17, List.size_toArray, List.length_cons, List.length_nil, Nat.reduceAdd, Nat.reduceSub, Array.replicate_succ, Array.replicate_zero, List.push_toArray, List.append_toArray, List.nil_append, List.cons_append]
  gi_wp2_with fail
  refine ⟨trivial, (callsIn_wide.2 (places_any s k0 _)).mono ?_⟩
  rintro e w0 ⟨rfl, hw0⟩
  have hR0 : Blk w0 w.heap.size 3 #[.int .i64 0] := by
    rw [← hw0]
    exact ((Blk.alloc_new w 3 #[.int .i64 0]).below ((Below.refl _ _).alloc (Nat.le_refl _) _)).below ((Below.refl _ _).alloc (Nat.le_refl _) _)
  have hS0 : Blk w0 (w.heap.size + 1) 9 #[.string s] := by
    rw [← hw0]
    have := Blk.alloc_new (w.alloc (.cells #[.int .i64 0] 3)) 9 #[.string s]
    rw [World.size_alloc] at this
    exact this.below ((Below.refl _ _).alloc (Nat.le_refl _) _)
  have hA0 : Blk w0 (w.heap.size + 1 + 1) 3 #[.int .i64 k0] := by
    rw [← hw0]
    have := Blk.alloc_new ((w.alloc (.cells #[.int .i64 0] 3)).alloc (.cells #[.string s] 9)) 3 #[.int .i64 k0]
    rw [World.size_alloc, World.size_alloc] at this
    exact this
  have hB0 : Below w.heap.size w w0 := by
    rw [← hw0]
    exact (((Below.refl _ w).alloc (Nat.le_refl _) _).alloc (by simp) _).alloc (by simp; omega) _
  have hz0 : w0.heap.size = w.heap.size + 3 := by rw [← hw0]; simp
  simp only [World.size_alloc]
  have HR0 := Lib.hid hR0
  have HS0 := Lib.hid hS0
  have HA0 := Lib.hid hA0
  have HB0 := Lib.hid hB0
  have HZ0 := Lib.hid hz0
  clear hw0 hR0 hS0 hA0 hB0 hz0
  gi_wp2_with fail
  refine wpIn_rangeFunc ?_
  intro fn hfn
  rw [show Fence.wide.round = none from rfl]
  generalize hAS : Code.region 2 _ false = AS
  generalize hBD : Code.block 1 _ = BD
  obtain ⟨rec, hrec⟩ : ∃ rec : LoopState → Option Code → Loop, rec = fun st pe => { state := st, pending := pe, fn := fn, tmps := #[.string s, .int .i64 k0, undef, undef, .pointer (some ⟨w.heap.size, 0, none⟩), undef, .string s, .int .i64 k0, .func (.func 32) #[] #[.pointer (some ⟨w.heap.size + 1 + 1, 0, none⟩), .pointer (some ⟨w.heap.size + 1, 0, none⟩)], undef, undef, undef, undef], params := #[9], assign := AS, body := BD, defers := w0.heap.size } := ⟨_, rfl⟩
  obtain ⟨W1, hW1⟩ : ∃ W1, (w0.alloc (.deferred (some []))).alloc (.loop (rec .ready none)) = W1 := ⟨_, rfl⟩
  have hL1 : W1.heap[w0.heap.size + 1]? = some (.loop (rec .ready none)) := by
    rw [← hW1]; have := World.alloc_heap_new (w0.alloc (.deferred (some []))) (.loop (rec .ready none)); rwa [World.size_alloc] at this
  have hK1 : W1.heap[w0.heap.size]? = some (.deferred (some [])) := by
    rw [← hW1]; exact (Below.heap_alloc _ _ _ (by simp)).trans (World.alloc_heap_new w0 _)
  have hb1 : Below w0.heap.size w0 W1 := by
    rw [← hW1]; exact ((Below.refl _ w0).alloc (Nat.le_refl _) _).alloc (by simp) _
  have hz1 : w0.heap.size + 2 ≤ W1.heap.size := by rw [← hW1]; simp
  refine ⟨w0.heap.size + 1, [{ target := .collected w0.heap.size, args := #[] }], W1, { target := .fn (.func 32) #[.pointer (some ⟨w.heap.size + 1 + 1, 0, none⟩), .pointer (some ⟨w.heap.size + 1, 0, none⟩)], args := #[.func (.yield (w0.heap.size + 1)) #[] #[]] }, W1, 32,
    #[.func (.yield (w0.heap.size + 1)) #[] #[]] ++ #[.pointer (some ⟨w.heap.size + 1 + 1, 0, none⟩), .pointer (some ⟨w.heap.size + 1, 0, none⟩)], W1, ?_, ?_, fun _ _ => trivial, ?_, fun _ => by omega, ?_⟩
  · rw [← hW1, hrec]; exact run_enterLoop_outer _ _ _ _ _
  · simp [resolve, go_sem]
  · simp [invoke, go_sem]
  · have hZ : w.heap.size + 3 ≤ w0.heap.size := Nat.le_of_eq HZ0.out.symm
    have hR1 : Blk W1 w.heap.size 3 #[.int .i64 0] := HR0.out.below hb1
    have hS1 : Blk W1 (w.heap.size + 1) 9 #[.string s] := HS0.out.below hb1
    have hA1 : Blk W1 (w.heap.size + 1 + 1) 3 #[.int .i64 k0] := HA0.out.below hb1
    have hB1 : Below w.heap.size w W1 := HB0.out.trans (hb1.mono (by omega))
    refine (places1_in (w0.heap.size + 1) (w.heap.size + 1) (w.heap.size + 1 + 1) s k0 W1 _ _ hm hb hS1 hA1 (by omega)
      (fun x _ W' => W'.heap[w0.heap.size + 1]? = some (.loop (rec .done (some .ret))) ∧ W'.heap[w0.heap.size]? = some (.deferred (some [])) ∧ Blk W' w.heap.size 3 #[.int .i64 x] ∧ Below w.heap.size w W') ?_).mono ?_
    · intro x Wr hchg
      have hl : Wr.heap[w0.heap.size + 1]? = some (.loop (rec .ready none)) := by rw [hchg.block _ (by omega) (by omega)]; exact hL1
      have hk : Wr.heap[w0.heap.size]? = some (.deferred (some [])) := by rw [hchg.block _ (by omega) (by omega)]; exact hK1
      have hr : Blk Wr w.heap.size 3 #[.int .i64 0] := hR1.chg hchg (by omega)
      have hbw : Below w.heap.size w Wr := below_chg hB1 hB1.size hchg (fun i hi => by omega)
      have hlt : w0.heap.size + 1 < Wr.heap.size := (Array.getElem?_eq_some_iff.1 hl).1
      have hy := run_yield (P := Try.prog) (args := #[.int .i64 x]) hl (by rw [hrec]; rfl)
      rw [hrec] at hy
      refine ⟨fn, _, AS, BD, hy, roundIn_of_wpIn trivial ?_⟩
      rw [← hAS]
      gi_wp2
      refine ⟨_, run_beginRound hl (by rw [hrec]), ?_⟩
      have hr2 := blk_putObj hr (.loop { rec .ready none with state := .busy }) (l := w0.heap.size + 1) (by omega)
      have hl2 : (Wr.putObj (w0.heap.size + 1) (.loop { rec .ready none with state := .busy })).heap[w0.heap.size + 1]? = some (.loop { rec .ready none with state := .busy }) := World.putObj_heap_same hlt
      have hk2 : (Wr.putObj (w0.heap.size + 1) (.loop { rec .ready none with state := .busy })).heap[w0.heap.size]? = some (.deferred (some [])) := (World.putObj_heap_other (by omega)).trans hk
      have hbw2 := below_putObj hbw (w0.heap.size + 1) (.loop { rec .ready none with state := .busy }) (by omega)
      generalize Wr.putObj (w0.heap.size + 1) (.loop { rec .ready none with state := .busy }) = W2 at *
      have c0 := hr2.cell 0
      have c1 := hr2.free 0
      have Hr2 := Lib.hid hr2
      have Hl2 := Lib.hid hl2
      have Hk2 := Lib.hid hk2
      have Hbw2 := Lib.hid hbw2
      have HREC := Lib.hid hrec
      clear hr2 hl2 hk2 hbw2 hy hl hk hr hbw hrec hL1 hK1 hchg
      rw [← hBD]
      gi_wp2
      have hl3 : (W2.setCell ⟨w.heap.size, 0, none⟩ (.int .i64 x)).heap[w0.heap.size + 1]? = some (.loop { rec .ready none with state := .busy }) := (Below.heap_setCell _ _ _ _ (by simp; omega)).trans Hl2.out
      have hk3 : (W2.setCell ⟨w.heap.size, 0, none⟩ (.int .i64 x)).heap[w0.heap.size]? = some (.deferred (some [])) := (Below.heap_setCell _ _ _ _ (by simp; omega)).trans Hk2.out
      have hr3 := Hr2.out.set 0 (.int .i64 x)
      have hb3 := Hbw2.out.setCell (p := ⟨w.heap.size, 0, none⟩) (Nat.le_refl _) (.int .i64 x)
      have hlt3 : w0.heap.size + 1 < (W2.setCell ⟨w.heap.size, 0, none⟩ (.int .i64 x)).heap.size := (Array.getElem?_eq_some_iff.1 hl3).1
      refine ⟨_, _, run_endRound (some .ret) hl3, rfl, ?_, (World.putObj_heap_other (by omega)).trans hk3, blk_putObj hr3 _ (by omega), below_putObj hb3 _ _ (by omega)⟩
      rw [World.putObj_heap_same hlt3, HREC.out]
      rfl
    · rintro e W2 ⟨⟨v, rfl⟩, hcase⟩
      rcases hcase with ⟨x, Wx, hx, hxs, hcx, hl2, hk2, hr2, hb2⟩ | ⟨hres, hchg⟩
      · obtain ⟨W3, hE, hk3, hr3, hb3⟩ : ∃ W3, (Instr.endLoop (w0.heap.size + 1)).run Try.prog W2 = .ok (some .ret) W3 ∧ W3.heap[w0.heap.size]? = some (.deferred (some [])) ∧ Blk W3 w.heap.size 3 #[.int .i64 x] ∧ Below w.heap.size w W3 :=
          ⟨_, by have := run_endLoop (P := Try.prog) hl2 (by rw [hrec]; simp); rw [this, hrec], (World.putObj_heap_other (by omega)).trans hk2, blk_putObj hr2 _ (by omega), below_putObj hb2 _ _ (by omega)⟩
        refine ⟨some .ret, W3, hE, ?_⟩
        have HX := Lib.hid hx
        have Hk3 := Lib.hid hk3
        have Hr3 := Lib.hid hr3
        have Hb3 := Lib.hid hb3
        clear hE hl2 hk2 hr2 hb2 hk3 hr3 hb3 hx hcx hrec hL1 hK1
        dsimp only
        gi_wp2
        refine ⟨by simp, .inl ⟨_, _, rfl, run_takeDeferred Hk3.out, ?_⟩⟩
        have hc5 : (W3.putObj w0.heap.size (.deferred none)).cell? ⟨w.heap.size, 0, none⟩ = some (.int .i64 x) := (blk_putObj Hr3.out _ (by omega)).cell 0
        refine ⟨.int .i64 x, ?_, by rw [HX.out], below_putObj Hb3.out _ _ (by omega)⟩
        simp [results, Try.f17, go_sem, hc5]
      · have hl : W2.heap[w0.heap.size + 1]? = some (.loop (rec .ready none)) := by rw [hchg.block _ (by omega) (by omega)]; exact hL1
        have hk : W2.heap[w0.heap.size]? = some (.deferred (some [])) := by rw [hchg.block _ (by omega) (by omega)]; exact hK1
        have hr : Blk W2 w.heap.size 3 #[.int .i64 0] := hR1.chg hchg (by omega)
        have hbw : Below w.heap.size w W2 := below_chg hB1 hB1.size hchg (fun i hi => by omega)
        obtain ⟨W3, hE, hk3, hr3, hb3⟩ : ∃ W3, (Instr.endLoop (w0.heap.size + 1)).run Try.prog W2 = .ok none W3 ∧ W3.heap[w0.heap.size]? = some (.deferred (some [])) ∧ Blk W3 w.heap.size 3 #[.int .i64 0] ∧ Below w.heap.size w W3 :=
          ⟨_, by have := run_endLoop (P := Try.prog) hl (by rw [hrec]; simp); rw [this, hrec], (World.putObj_heap_other (by omega)).trans hk, blk_putObj hr _ (by omega), below_putObj hbw _ _ (by omega)⟩
        refine ⟨none, W3, hE, ?_⟩
        have HX := Lib.hid hres
        have q0 := hr3.cell 0
        have q1 := hr3.free 0
        have Hk3 := Lib.hid hk3
        have Hr3 := Lib.hid hr3
        have Hb3 := Lib.hid hb3
        clear hE hl hk hr hbw hk3 hr3 hb3 hres hchg hrec hL1 hK1
        dsimp only
        gi_wp2
        have hk4 : (W3.setCell ⟨w.heap.size, 0, none⟩ (.int .i64 s.size)).heap[w0.heap.size]? = some (.deferred (some [])) := (Below.heap_setCell _ _ _ _ (by simp; omega)).trans Hk3.out
        refine ⟨by simp, .inl ⟨_, _, rfl, run_takeDeferred hk4, ?_⟩⟩
        have hc5 : ((W3.setCell ⟨w.heap.size, 0, none⟩ (.int .i64 s.size)).putObj w0.heap.size (.deferred none)).cell? ⟨w.heap.size, 0, none⟩ = some (.int .i64 s.size) := (blk_putObj (Hr3.out.set 0 _) _ (by omega)).cell 0
        refine ⟨.int .i64 s.size, ?_, by rw [HX.out], below_putObj (Hb3.out.setCell (p := ⟨w.heap.size, 0, none⟩) (Nat.le_refl _) _) _ _ (by omega)⟩
        simp [results, Try.f17, go_sem, hc5]
end Go.Proofs.Ytkgleilcngnpfaa

/- strings.Builder's copyCheck and WriteString at this program (after the kit's walks of them: here the panic of a copied builder has no operation). -/
import Derived.Test.YtiepipcankhdnaaGreatDoorJ2
import Derived.Lib.Builder
import Derived.Lib.AppendStr
import Derived.Laws.Externs
namespace Go.Proofs.YtiepipcankhdnaaGreatDoor
set_option linter.unusedSimpArgs false
set_option linter.unusedVariables false
set_option maxRecDepth 100000
open Go.RowKit

theorem build_size : (Tryz.prog.info? 129).map (·.size) = some 2 := by kernel_rfl
theorem build_lies : liesAt Tryz.prog Tryz.prog.depth 129 (2 / Tryz.prog.cellsOf 129) 0 129 1 = true := by kernel_rfl
theorem build_ptr : Tryz.prog.underlying 126 = some (.pointer 129) := by kernel_rfl
theorem build_unsafe : Tryz.prog.underlying 187 = some .unsafePointer := by kernel_rfl
theorem Tryz.info_byte' : (Tryz.prog.info? 5).map (fun i => (i.zero, i.size, i.bytes)) = some (some (.int .u8 0), 1, 1) := by kernel_rfl
theorem under_bytes' : Tryz.prog.underlying 127 = some (.slice 5) := by kernel_rfl
theorem under_str' : Tryz.prog.underlying 9 = some .string := by kernel_rfl
abbrev IsB (B b : Nat) (bs : List Value) (w : World) : Prop := Lib.IsBuilder 129 5 B b bs w
set_option maxHeartbeats 1000000 in
theorem copyCheck_used (b : Nat) (w : World) (h0 : w.cell? ⟨b, 0, none⟩ = some (.pointer (some ⟨b, 0, none⟩))) :
    Calls Tryz.prog 146 #[.pointer (some ⟨b, 0, none⟩)] w fun e w' => e = .returned (.tuple #[]) ∧ w' = w := by
  obtain ⟨j, hj, _⟩ := Option.map_eq_some_iff.1 build_size
  have hq := Lib.run_neq_ptr_same (P := Tryz.prog) w ⟨b, 0, none⟩ build_ptr hj
  clear hj
  go_enter Tryz.func146, Tryz.ntmps146
  go_wp2_with fail
  go_end0
  exact ⟨rfl, rfl⟩
set_option maxHeartbeats 1000000 in
theorem copyCheck_fresh (b : Nat) (w : World) (h0 : w.cell? ⟨b, 0, none⟩ = some (.pointer none)) (hsh : w.shape? b = some (129, 2)) (hfz : w.frozen? ⟨b, 0, none⟩ = false) :
    Calls Tryz.prog 146 #[.pointer (some ⟨b, 0, none⟩)] w fun e w' => e = .returned (.tuple #[]) ∧ w' = w.setCell ⟨b, 0, none⟩ (.pointer (some ⟨b, 0, none⟩)) := by
  obtain ⟨j, hj, hjs⟩ := Option.map_eq_some_iff.1 build_size
  have q1 := Lib.run_to_unsafe (P := Tryz.prog) w ⟨b, 0, none⟩ build_ptr build_unsafe hj (by rw [hjs]; decide) hsh (Nat.zero_lt_succ 1)
  have q2 := Lib.run_from_unsafe (P := Tryz.prog) w ⟨b, 0, none⟩ build_unsafe build_ptr hj hsh build_lies
  have q3 : (callFunc 179 #[.pointer (some ⟨b, 0, none⟩)]).run Tryz.prog w = .ok (.value (.pointer (some ⟨b, 0, none⟩))) w := by
    rw [run_callFunc_extern Tryz.func179 (by kernel_rfl) (by kernel_rfl) (by kernel_rfl) (e := Extern.AbiNoEscape.same) (by kernel_rfl), Lib.run_noEscape]
    rfl
  clear hj hjs
  go_enter Tryz.func146, Tryz.ntmps146
  go_wp2_with fail
  go_end0
  exact ⟨rfl, rfl⟩
theorem copyCheck_any (B b : Nat) (bs : List Value) (w : World) (h : IsB B b bs w) :
    Calls Tryz.prog 146 #[.pointer (some ⟨b, 0, none⟩)] w fun e w' => e = .returned (.tuple #[]) ∧ (Lib.BuilderAt 129 5 B b (.pointer (some ⟨b, 0, none⟩)) bs w' ∧ Below B w w') ∧ Chg (fun k => k = b) w w' ∧ ∀ p v0, Blk w b 129 #[p, v0] → ∃ p', Blk w' b 129 #[p', v0] := by
  rcases h with h | h
  · refine (copyCheck_fresh b w h.cell0 h.shape h.frozen0).mono ?_
    rintro e w' ⟨rfl, rfl⟩
    exact ⟨rfl, ⟨h.used _, (Below.refl B w).setCell (p := ⟨b, 0, none⟩) h.1 _⟩, (Chg.refl _ _).setCell (S := fun k => k = b) (p := ⟨b, 0, none⟩) (fun _ => rfl) _, fun p v0 hb => ⟨_, hb.set 0 _⟩⟩
  · refine (copyCheck_used b w h.cell0).mono ?_
    rintro e w' ⟨rfl, rfl⟩
    exact ⟨rfl, ⟨h, Below.refl B _⟩, Chg.refl _ _, fun p v0 hb => ⟨p, hb⟩⟩
theorem Chg.grown' {w w' : World} {row : Option Nat} (h : w.grownBy w' row) : Chg (fun k => row = some k) w w' :=
  ⟨h.os, h.tape, h.output, h.size, fun i hi hs => h.block i hi (fun e => hs e.symm)⟩
set_option maxHeartbeats 2000000 in
theorem writeString_any (B b : Nat) (bs : List Value) (s : ByteArray) (w : World) (h : IsB B b bs w) (hlen : bs.length + s.size ≤ 140737488355328) (hBw : B ≤ w.heap.size) :
    Calls Tryz.prog 90 #[.pointer (some ⟨b, 0, none⟩), .string s] w fun e w' => e = .returned (.tuple #[.int .i64 s.size, .nilIface]) ∧ (Lib.BuilderAt 129 5 B b (.pointer (some ⟨b, 0, none⟩)) (bs ++ Lib.strCells s) w' ∧ Below B w w') ∧ ∃ U : Nat → Prop, (∀ q, b ≠ q → (∀ p v, w.heap[b]? = some (.cells #[p, v] 129 (0, 0)) → v.ownBlock ≠ some q) → ¬ U q) ∧ Chg U w w' := by
  obtain ⟨i0, hi, hz0, hz1, hz2⟩ := info_parts Tryz.info_byte'
  have HC := Lib.hid (copyCheck_any B b bs w h)
  have HH := Lib.hid h
  clear h
  go_enter Tryz.func90, Tryz.ntmps90
  go_wp2_with fail
  refine HC.out.mono ?_
  rintro e w1 ⟨rfl, ⟨h1, hb1⟩, hch, hkv⟩
  have HCH := Lib.hid hch
  clear hch
  obtain ⟨hB, v, hbk, hown, hne⟩ := h1
  have c0 : w1.cell? ⟨b, 0, none⟩ = some (.pointer (some ⟨b, 0, none⟩)) := by rw [Lib.cell_of_heap hbk]; rfl
  have c1 : w1.cell? ⟨b, 1, none⟩ = some v := by rw [Lib.cell_of_heap hbk]; rfl
  have HV := Lib.hid (show ∀ p v0, w.heap[b]? = some (.cells #[p, v0] 129 (0, 0)) → v0 = v from fun p v0 hv0 => by
    obtain ⟨p', hp'⟩ := hkv p v0 hv0
    have e := Option.some.inj (hp'.symm.trans hbk)
    injection e with e1 _ _
    have e2 : p' = .pointer (some ⟨b, 0, none⟩) ∧ v0 = v := by simpa using e1
    exact e2.2)
  clear hkv
  have Hbk := Lib.hid hbk
  have Hown := Lib.hid hown
  have Hb1 := Lib.hid hb1
  clear hbk hown hb1
  go_wp2_with (at_builtin; refine Lib.wpList_append_own_string _ rfl _ _ 127 9 rfl B 5 i0 under_bytes' under_str' hi hz0 hz1 hz2 _ _ _ rfl Hown.out s rfl ?c3 ?c4 ?c5 ?_)
  case c3 => unfold maxLen; omega
  case c4 => omega
  case c5 => have := Hb1.out.size; omega
  intro v' w2 hown' hgrow _
  have hbk := Hbk.out
  have hlt : b < w1.heap.size := by
    rcases Nat.lt_or_ge b w1.heap.size with h' | h'
    · exact h'
    · simp [Array.getElem?_eq_none h'] at hbk
  have hb2 : w2.heap[b]? = some (.cells #[.pointer (some ⟨b, 0, none⟩), v] 129 (0, 0)) := by
    rw [hgrow.block b hlt (fun e => hne e.symm)]
    exact hbk
  have d0 : w2.cell? ⟨b, 0, none⟩ = some (.pointer (some ⟨b, 0, none⟩)) := by rw [Lib.cell_of_heap hb2]; rfl
  have d1 : w2.cell? ⟨b, 1, none⟩ = some v := by rw [Lib.cell_of_heap hb2]; rfl
  have f1 : w2.frozen? ⟨b, 1, none⟩ = false := Lib.frozen_of_heap hb2 1
  have Hown' := Lib.hid hown'
  have Hgrow := Lib.hid hgrow
  have Hb2 := Lib.hid hb2
  obtain ⟨ao, n', cap, rfl⟩ : ∃ ao n' cap, v' = .slice ao n' cap := by
    rcases hown'.2 with ⟨hv, _⟩ | ⟨g, cap, cur, hv, _⟩
    · exact ⟨_, _, _, hv⟩
    · exact ⟨_, _, _, hv⟩
  clear hown' hgrow hb2 hbk c0 c1
  go_wp2_with fail
  go_ret2
  refine ⟨rfl, ⟨?_, ?_⟩, fun k => k = b ∨ v.ownBlock = some k, fun q h1 h2 e => ?_, ?_⟩
  · exact Lib.BuilderAt.put (T := 129) (e := 5) hB Hb2.out (bs' := bs ++ Lib.strCells s) (by simpa [Lib.strCells_length] using Hown'.out) (by decide)
  · exact (Hb1.out.grown Hgrow.out (by have := Hb1.out.size; omega) (fun k hk => (Hown.out.lt k hk).1)).setCell (p := ⟨b, 1, none⟩) hB _
  · rcases e with e | e
    · exact h1 e.symm
    · have ho : ∃ p v0, w.heap[b]? = some (.cells #[p, v0] 129 (0, 0)) ∧ v0 = v := by
        have hk : ∀ p, Lib.BuilderAt 129 5 B b p bs w → ∃ p v0, w.heap[b]? = some (.cells #[p, v0] 129 (0, 0)) ∧ v0 = v := fun p hp => by
          obtain ⟨_, v0, hv0, _, _⟩ := hp
          exact ⟨p, v0, hv0, HV.out p v0 hv0⟩
        exact HH.out.elim (hk _) (hk _)
      obtain ⟨p, v0, h3, rfl⟩ := ho
      exact h2 p v0 h3 e
  · exact ((HCH.out.mono fun _ _ e => .inl e).trans ((Chg.grown' Hgrow.out).mono fun k _ e => .inr e)).setCell (p := ⟨b, 1, none⟩) (fun _ => .inl rfl) _
theorem IsB.below {B b : Nat} {bs : List Value} {w w' : World} (h : IsB B b bs w) (x : Below w.heap.size w w') : IsB B b bs w' := by
  have go : ∀ p, Lib.BuilderAt 129 5 B b p bs w → Lib.BuilderAt 129 5 B b p bs w' := fun p h => by
    have hlt := h.lt
    obtain ⟨hB, v, hb, hown, hne⟩ := h
    refine ⟨hB, v, (x.block b hlt).trans hb, ?_, hne⟩
    have hl2 := World.ownsRow.lt hown
    obtain ⟨h1, h2⟩ := hown
    refine ⟨h1, ?_⟩
    rcases h2 with h2 | ⟨g, cap, cur, hv, hg, hh, r⟩
    · exact .inl h2
    · exact .inr ⟨g, cap, cur, hv, hg, (x.block g (hl2 g (by rw [hv]; rfl)).2).trans hh, r⟩
  exact h.elim (fun h => .inl (go _ h)) (fun h => .inr (go _ h))
/-- A new builder. -/
theorem IsB.new (w : World) : IsB w.heap.size w.heap.size [] (w.alloc (.cells #[.pointer none, .slice none 0 0] 129 (0, 0))) := by
  exact .inl ⟨Nat.le_refl _, .slice none 0 0, Blk.alloc_new w _ _, World.ownsRow_nil _ _ _ 1, by simp [Value.ownBlock]⟩
end Go.Proofs.YtiepipcankhdnaaGreatDoor

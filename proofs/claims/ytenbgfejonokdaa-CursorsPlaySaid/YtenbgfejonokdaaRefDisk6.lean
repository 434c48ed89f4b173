/- The reference's disk: a file laid where its name stands. -/
import Derived.Test.YtenbgfejonokdaaRefDisk5
import Derived.Test.YtenbgfejonokdaaSink
import Derived.Test.YtenbgfejonokdaaLiveM
namespace Go.Proofs.Ytenbgfejonokdaa
set_option maxRecDepth 100000
open Go.RowKit Go.Maps
open Dsk

/-- Where a name stands: all ahead of it are smaller, the next one is not. -/
theorem lay_ins {m : Files} (hr : Rising m) {nm : Str} (hnew : Dsk.get m nm = none) {k : Nat} (hk : k ≤ m.length) (h1 : ∀ (j : Nat) (hj : j < m.length), j < k → bytesBefore m[j].1 nm = true)
    (h2 : ∀ (hk' : k < m.length), bytesBefore m[k].1 nm = false) (f : Fl) : m.take k ++ [(nm, f)] ++ m.drop k = ins (nm, f) m := by
  have ha : ∀ p ∈ m.take k, bytesBefore p.1 nm = true := fun p hp => by
    obtain ⟨j, hj, rfl⟩ := List.getElem_of_mem hp
    rw [List.length_take] at hj
    rw [List.getElem_take]
    exact h1 j (by omega) (by omega)
  have hb : ∀ p ∈ m.drop k, bytesBefore nm p.1 = true := fun p hp => by
    obtain ⟨j, hj, rfl⟩ := List.getElem_of_mem hp
    rw [List.length_drop] at hj
    have hkl : k < m.length := by omega
    have hne : m[k].1 ≠ nm := Dsk.get_none hnew _ (List.getElem_mem hkl)
    have h3 : bytesBefore nm m[k].1 = true := by
      rcases before_total hne with h | h
      · rw [h2 hkl] at h; cases h
      · exact h
    rw [List.getElem_drop]
    rcases Nat.eq_zero_or_pos j with rfl | hj0
    · exact h3
    · exact before_trans h3 (List.pairwise_iff_getElem.1 hr k (k + j) hkl (by omega) (by omega))
  have := ins_mid (k := nm) (g := f) ha hb
  rw [List.take_append_drop] at this
  rw [this]; simp
/-- A stretch of files that can be read. -/
def SrcF (w : World) (xo : Option Addr) (n c : Nat) (m2 : Files) : Prop := m2.length = n ∧ ((xo = none ∧ n = 0 ∧ c = 0) ∨ ∃ ad, xo = some ad ∧ ∀ j u, (cellsF m2)[j]? = some u → w.cell? (ad.add j) = some u)
/-- 'append(l, m...)', files, at a step of a region that draws its order; what else lies there stays. -/
theorem step_app {ops : Array Oper} {o : Oper} {a : Act} {K : Act → World → Prop} {Q : Exit → Act → World → Prop} {E : Prop} {w : World} (hgd : o.guard = none) (s x : Operand)
    (ho : o.op = .call { callee := .builtin .append, args := #[s, x], argTypes := #[113, 113] })
    (B : Nat) (v : Value) (m : Files) (hs : a.eval s = v) (hown : OwnF w B v m) (xo : Option Addr) (n c : Nat) (m2 : Files) (hx : a.eval x = .slice xo n c) (hsrc : SrcF w xo n c m2)
    (hl : m.length + m2.length ≤ 1000000) (hB : B ≤ w.heap.size)
    (h : ∀ v' w', OwnF w' B v' (m ++ m2) → Chg (fun k => v.ownBlock = some k) w w' → K (a.put o.dst v') w') : if Region.wanted o (yielded ops a.tmps) = true then Oper.wp Try.prog o a w K Q else E := by
  obtain ⟨i0, hi, hz0, hz1, hz2⟩ := info_parts Try.info_file
  have hw : Region.wanted o (yielded ops a.tmps) = true := by simp [Region.wanted, hgd]
  rw [if_pos hw]
  obtain ⟨hn, ⟨rfl, rfl, rfl⟩ | ⟨ad, rfl, hc⟩⟩ := hsrc
  · have hm2 : m2 = [] := List.length_eq_zero_iff.1 hn
    subst hm2
    have hrun := run_append_owned_none (P := Try.prog) (w := w) B 113 o.type 117 i0 3 under_files05 hi v m.length (cellsF m) hown
    unfold Oper.wp
    simp [execOp, ho, resolve, invoke, builtin, hs, hx, hrun, Result.andThen]
    simp only [Oper.upon]
    exact h v w (by rw [List.append_nil]; exact hown) (Chg.refl _ _)
  · subst hn
    refine wp_append_own _ s x 113 ho B 117 i0 _ 3 40 under_files05 hi hz0 hz1 hz2 rfl (by decide) v m.length (cellsF m) hs hown ad m2.length c (cellsF m2) hx (cellsF_length m2) hc (cellsF_one m2) ?_ ?_ hB ?_
    · unfold maxLen; omega
    · omega
    · intro v' w' h1 h2 _
      refine h v' w' ?_ ⟨h2.os, h2.tape, h2.output, h2.size, fun i hi hs => h2.block i hi (fun e => hs e.symm)⟩
      unfold OwnF
      rw [List.length_append, cellsF_append]
      exact h1
/-- The row's form: nothing at all, or a block. -/
theorem OwnF.form {w : World} {B : Nat} {v : Value} {m : Files} (h : OwnF w B v m) : (v = .slice none 0 0 ∧ m = []) ∨ ∃ b c, v = .slice (some ⟨b, 0, none⟩) m.length c ∧ m.length ≤ c ∧ b < w.heap.size ∧
    ∀ i (hi : i < m.length), w.cell? ⟨b, i * 3, none⟩ = some (.string ⟨m[i].1.toArray⟩) ∧ w.cell? ⟨b, i * 3 + 1, none⟩ = some (.string ⟨m[i].2.data.toArray⟩) ∧ w.cell? ⟨b, i * 3 + 2, none⟩ = some (.int .i64 m[i].2.safe) := by
  have hat := h
  have hlt := World.ownsRow.lt h
  obtain ⟨h1, h2⟩ := h
  rcases h2 with ⟨rfl, h2⟩ | ⟨g, cap, cur, hv, hg, hh, hc, _⟩
  · exact .inl ⟨rfl, List.length_eq_zero_iff.1 h2⟩
  · refine .inr ⟨g, cap, hv, hc, (hlt g (by rw [hv]; rfl)).2, fun i hi => ?_⟩
    obtain ⟨b, c', hv', _, _, _, hcl⟩ := OwnF.at_ hat (by omega)
    rw [hv] at hv'
    injection hv' with e1 _ _
    injection e1 with e1
    injection e1 with e1 _ _
    subst e1
    exact hcl i hi
theorem srcNew {w : World} {g : Nat} {nm dt : ByteArray} {sf : Nat} (h : Blk w g 117 #[.string nm, .string dt, .int .i64 sf]) : SrcF w (some ⟨g, 0, none⟩) 1 1 [(nm.data.toList, (⟨dt.data.toList, sf⟩ : Fl))] := by
  refine ⟨rfl, .inr ⟨_, rfl, fun j u hj => ?_⟩⟩
  rw [add_none, Nat.zero_add, h.cell]
  have e : cellsF [(nm.data.toList, (⟨dt.data.toList, sf⟩ : Fl))] = [.string nm, .string dt, .int .i64 sf] := by simp [cellsF]
  rw [e] at hj
  rw [← hj]
  match j with
  | 0 => rfl
  | 1 => rfl
  | 2 => rfl
  | j + 3 => rfl
section
variable {w : World} {F : Nat → Prop} {br : Nat} {vl vk : Value} {st : Bool} {nf : Int} {d : Dk}
set_option maxHeartbeats 8000000 in
theorem refLay_in (h : RefIn w F br vl vk st nf d) (nm dt : ByteArray) (sf : Nat) (hnew : Dsk.get d.files nm.data.toList = none) :
    Calls Try.prog 85 #[.pointer (some ⟨br, 0, none⟩), .agg #[.string nm, .string dt, .int .i64 sf]] w fun e w' => e = .returned (.tuple #[]) ∧ ∃ vl', OwnF w' w.heap.size vl' (ins (nm.data.toList, ⟨dt.data.toList, sf⟩) d.files) ∧
      Blk w' br 115 #[.int .i64 d.room, .int .i64 d.starts, .bool d.off, .bool st, vl', .int .i64 nf, vk] ∧ Chg (· = br) w w' := by
  have hcnt := h.ok.count
  rcases h.row.form with ⟨rfl, hnil⟩ | ⟨b, c, rfl, hlc, hb, hcl⟩
  · have c4 := h.blk.cell 4
    have f4 := h.blk.free 4
    simp at c4
    have hbr := h.blk.lt
    obtain ⟨wb, hwb⟩ : ∃ wb, wb = w.alloc (.cells #[.string nm, .string dt, .int .i64 sf] 117 (0, 0)) := ⟨_, rfl⟩
    have hb0 : Below w.heap.size w wb := by rw [hwb]; exact (Below.refl _ _).alloc (Nat.le_refl _) _
    have hbx : Blk wb w.heap.size 117 #[.string nm, .string dt, .int .i64 sf] := by rw [hwb]; exact Blk.alloc_new w _ _
    have x0 := hbx.cell 0
    have x1 := hbx.cell 1
    have x2 := hbx.cell 2
    simp at x0 x1 x2
    have ca := (hb0.cell (p := ⟨br, 4, none⟩) hbr).trans c4
    have fa := (hb0.frozen (p := ⟨br, 4, none⟩) hbr).trans f4
    have H := Lib.hid h
    have HB0 := Lib.hid hb0
    have HBx := Lib.hid hbx
    have HW := Lib.hid hwb
    have Hnew := Lib.hid hnew
    have hzb : wb.heap.size = w.heap.size + 1 := by rw [hwb]; simp
    clear h hb0 hbx hwb c4 f4 hnew
    go_enter Try.func85, Try.ntmps85
    go_wp2_with fail
    rw [← HW.out]
    have hlen0 : d.files.length = 0 := by rw [hnil]; rfl
    have hk : 0 ≤ d.files.length := Nat.zero_le _
    have Hall := Lib.hid (show ∀ (j : Nat) (hj : j < d.files.length), j < 0 → bytesBefore d.files[j].1 nm.data.toList = true from fun _ _ e => absurd e (Nat.not_lt_zero _))
    clear hnil
    go_loopw [4] (fun v4 wr => v4 = .int .i64 0 ∧ ∃ nd : Nat, wr = wb.drewN nd) (fun _ _ => 0)
    case atStart => exact ⟨rfl, 0, rfl⟩
    case round =>
      obtain ⟨rfl, nd, rfl⟩ := hrel
      go_wp2_with fail
      go_quiet (fail)
      go_wp2_with fail
      obtain ⟨WR, hWR⟩ : ∃ WR, WR = (wb.drewN nd).drewN nq := ⟨_, rfl⟩
      rw [← hWR]
      have HbR := Lib.hid (show Below wb.heap.size wb WR.drew by rw [hWR]; exact (below_drewN (below_drewN (Below.refl _ _) nd) nq).drew)
      have hlb : w.heap.size < wb.heap.size := by omega
      have hbr2 : br < wb.heap.size := by omega
      obtain ⟨Z, hZ⟩ : ∃ Z, Z = WR.drew.heap.size := ⟨_, rfl⟩
      have HZ := Lib.hid hZ
      have hZb : wb.heap.size ≤ Z := by rw [hZ]; exact HbR.out.size
      have hS0 : WR.drew.cell? ⟨br, 4, none⟩ = some (.slice none 0 0) ∧ WR.drew.cell? ⟨w.heap.size, 0, none⟩ = some (.string nm) ∧ WR.drew.cell? ⟨w.heap.size, 1, none⟩ = some (.string dt) ∧ WR.drew.cell? ⟨w.heap.size, 2, none⟩ = some (.int .i64 sf) :=
        ⟨(HbR.out.cell (p := ⟨br, 4, none⟩) hbr2).trans ca, (HbR.out.cell (p := ⟨w.heap.size, 0, none⟩) hlb).trans x0, (HbR.out.cell (p := ⟨w.heap.size, 1, none⟩) hlb).trans x1, (HbR.out.cell (p := ⟨w.heap.size, 2, none⟩) hlb).trans x2⟩
      have HS := Lib.hid (show ∀ W1 W2 : World, Below Z W1 W2 → (W1.cell? ⟨br, 4, none⟩ = some (.slice none 0 0) ∧ W1.cell? ⟨w.heap.size, 0, none⟩ = some (.string nm) ∧ W1.cell? ⟨w.heap.size, 1, none⟩ = some (.string dt) ∧ W1.cell? ⟨w.heap.size, 2, none⟩ = some (.int .i64 sf)) → (W2.cell? ⟨br, 4, none⟩ = some (.slice none 0 0) ∧ W2.cell? ⟨w.heap.size, 0, none⟩ = some (.string nm) ∧ W2.cell? ⟨w.heap.size, 1, none⟩ = some (.string dt) ∧ W2.cell? ⟨w.heap.size, 2, none⟩ = some (.int .i64 sf)) from fun W1 W2 hb hs =>
        ⟨(hb.cell (p := ⟨br, 4, none⟩) (by show br < Z; omega)).trans hs.1, (hb.cell (p := ⟨w.heap.size, 0, none⟩) (by show w.heap.size < Z; omega)).trans hs.2.1, (hb.cell (p := ⟨w.heap.size, 1, none⟩) (by show w.heap.size < Z; omega)).trans hs.2.2.1, (hb.cell (p := ⟨w.heap.size, 2, none⟩) (by show w.heap.size < Z; omega)).trans hs.2.2.2⟩)
      have HF := Lib.hid (show ∀ W : World, Below Z WR.drew W → W.frozen? ⟨br, 4, none⟩ = false from fun W hb => (hb.frozen (p := ⟨br, 4, none⟩) (by show br < Z; omega)).trans ((HbR.out.frozen (p := ⟨br, 4, none⟩) hbr2).trans fa))
      have HBW := Lib.hid (show ∀ W : World, Below Z WR.drew W → Below w.heap.size w W from fun W hb => (HB0.out.trans (HbR.out.mono (by omega))).trans (hb.mono (by omega)))
      have HsT := Lib.hid (show ∀ W : World, Below Z WR.drew W → SrcF W none 0 0 (d.files.take 0) from fun W _ => ⟨by rw [List.length_take]; omega, .inl ⟨rfl, rfl, rfl⟩⟩)
      have HsD := Lib.hid (show ∀ W : World, Below Z WR.drew W → SrcF W none 0 0 (d.files.drop 0) from fun W _ => ⟨by rw [List.length_drop]; omega, .inl ⟨rfl, rfl, rfl⟩⟩)
      have hkc : (0 : Int) ≤ 0 := by omega
      have hkl2 : (0 : Int) ≤ d.files.length := by omega
      have hlc2 : (d.files.length : Int) ≤ 0 := by omega
      have HL := Lib.hid (show (d.files.take 0).length + (d.files.drop 0).length ≤ 2000 by rw [List.length_take, List.length_drop]; omega)
      have HLI := Lib.hid (lay_ins H.out.ok.rising Hnew.out hk Hall.out (fun h => absurd h (by omega)) ⟨dt.data.toList, sf⟩)
      clear hWR hZ
      refine wp_region_sink (S := fun w' => w'.cell? ⟨br, 4, none⟩ = some (.slice none 0 0) ∧ w'.cell? ⟨w.heap.size, 0, none⟩ = some (.string nm) ∧ w'.cell? ⟨w.heap.size, 1, none⟩ = some (.string dt) ∧ w'.cell? ⟨w.heap.size, 2, none⟩ = some (.int .i64 sf)) (n := 21) (by kernel_rfl) ?_
      refine sink_take 0 (some 27) (v := ?_) rfl rfl (by kernel_rfl) (by kernel_rfl) (by kernel_rfl) (by kernel_rfl) (by decide) (fun _ _ _ h => h) (Or.inl ⟨by rfl, ?hy0⟩) (by assumption) ?_
      case hy0 => (intro w' hS'; go_simp; (try with_reducible rfl))
      try simp only [Act.put, List.setIfInBounds_toArray, List.set_cons_zero, List.set_cons_succ]
      refine sink_take 2 (some 29) (v := ?_) rfl rfl (by kernel_rfl) (by kernel_rfl) (by kernel_rfl) (by kernel_rfl) (by decide) (fun _ _ _ h => h) (Or.inl ⟨by rfl, ?hy2⟩) (by assumption) ?_
      case hy2 => (intro w' hS'; go_simp; (try with_reducible rfl))
      try simp only [Act.put, List.setIfInBounds_toArray, List.set_cons_zero, List.set_cons_succ]
      refine sink_take 3 (some 30) (v := ?_) rfl rfl (by kernel_rfl) (by kernel_rfl) (by kernel_rfl) (by kernel_rfl) (by decide) (fun _ _ _ h => h) (Or.inl ⟨by rfl, ?hy3⟩) (by assumption) ?_
      case hy3 => (intro w' hS'; go_simp; (try with_reducible rfl))
      try simp only [Act.put, List.setIfInBounds_toArray, List.set_cons_zero, List.set_cons_succ]
      refine sink_take 4 (some 31) (v := ?_) rfl rfl (by kernel_rfl) (by kernel_rfl) (by kernel_rfl) (by kernel_rfl) (by decide) (fun _ _ _ h => h) (Or.inl ⟨by rfl, ?hy4⟩) (by assumption) ?_
      case hy4 => (intro w' hS'; go_simp; (try with_reducible rfl))
      try simp only [Act.put, List.setIfInBounds_toArray, List.set_cons_zero, List.set_cons_succ]
      refine sink_take 5 (some 32) (v := ?_) rfl rfl (by kernel_rfl) (by kernel_rfl) (by kernel_rfl) (by kernel_rfl) (by decide) (fun _ _ _ h => h) (Or.inl ⟨by rfl, ?hy5⟩) (by assumption) ?_
      case hy5 => (intro w' hS'; go_simp; (try with_reducible rfl))
      try simp only [Act.put, List.setIfInBounds_toArray, List.set_cons_zero, List.set_cons_succ]
      refine sink_take 6 (some 33) (v := ?_) rfl rfl (by kernel_rfl) (by kernel_rfl) (by kernel_rfl) (by kernel_rfl) (by decide) (fun _ _ _ h => h) (Or.inl ⟨by rfl, ?hy6⟩) (by assumption) ?_
      case hy6 => (intro w' hS'; go_simp; (try with_reducible rfl))
      try simp only [Act.put, List.setIfInBounds_toArray, List.set_cons_zero, List.set_cons_succ]
      refine sink_take 7 (some 34) (v := ?_) rfl rfl (by kernel_rfl) (by kernel_rfl) (by kernel_rfl) (by kernel_rfl) (by decide) (fun _ _ _ h => h) (Or.inl ⟨by rfl, ?hy7⟩) (by assumption) ?_
      case hy7 => (intro w' hS'; go_simp; (try with_reducible rfl))
      try simp only [Act.put, List.setIfInBounds_toArray, List.set_cons_zero, List.set_cons_succ]
      refine sink_take 9 (some 36) (v := ?_) rfl rfl (by kernel_rfl) (by kernel_rfl) (by kernel_rfl) (by kernel_rfl) (by decide) (fun _ _ _ h => h) (Or.inl ⟨by rfl, ?hy9⟩) (by assumption) ?_
      case hy9 => (intro w' hS'; go_simp; (try with_reducible rfl))
      try simp only [Act.put, List.setIfInBounds_toArray, List.set_cons_zero, List.set_cons_succ]
      refine sink_take 12 (some 39) (v := ?_) rfl rfl (by kernel_rfl) (by kernel_rfl) (by kernel_rfl) (by kernel_rfl) (by decide) (fun _ _ _ h => h) (Or.inl ⟨by rfl, ?hy12⟩) (by assumption) ?_
      case hy12 => (intro w' hS'; go_simp; (try with_reducible rfl))
      try simp only [Act.put, List.setIfInBounds_toArray, List.set_cons_zero, List.set_cons_succ]
      refine sink_take 13 (some 40) (v := ?_) rfl rfl (by kernel_rfl) (by kernel_rfl) (by kernel_rfl) (by kernel_rfl) (by decide) (fun _ _ _ h => h) (Or.inl ⟨by rfl, ?hy13⟩) (by assumption) ?_
      case hy13 => (intro w' hS'; go_simp; (try with_reducible rfl))
      try simp only [Act.put, List.setIfInBounds_toArray, List.set_cons_zero, List.set_cons_succ]
      refine sink_take 14 (some 41) (v := ?_) rfl rfl (by kernel_rfl) (by kernel_rfl) (by kernel_rfl) (by kernel_rfl) (by decide) (fun _ _ _ h => h) (Or.inl ⟨by rfl, ?hy14⟩) (by assumption) ?_
      case hy14 => (intro w' hS'; go_simp; (try with_reducible rfl))
      try simp only [Act.put, List.setIfInBounds_toArray, List.set_cons_zero, List.set_cons_succ]
      refine sink_take 15 (some 42) (v := ?_) rfl rfl (by kernel_rfl) (by kernel_rfl) (by kernel_rfl) (by kernel_rfl) (by decide) (fun _ _ _ h => h) (Or.inl ⟨by rfl, ?hy15⟩) (by assumption) ?_
      case hy15 => (intro w' hS'; go_simp; (try with_reducible rfl))
      try simp only [Act.put, List.setIfInBounds_toArray, List.set_cons_zero, List.set_cons_succ]
      refine sink_take 16 (some 43) (v := ?_) rfl rfl (by kernel_rfl) (by kernel_rfl) (by kernel_rfl) (by kernel_rfl) (by decide) (fun _ _ _ h => h) (Or.inl ⟨by rfl, ?hy16⟩) (by assumption) ?_
      case hy16 => (intro w' hS'; go_simp; (try with_reducible rfl))
      try simp only [Act.put, List.setIfInBounds_toArray, List.set_cons_zero, List.set_cons_succ]
      refine sink_take 17 (some 44) (v := ?_) rfl rfl (by kernel_rfl) (by kernel_rfl) (by kernel_rfl) (by kernel_rfl) (by decide) (fun _ _ _ h => h) (Or.inl ⟨by rfl, ?hy17⟩) (by assumption) ?_
      case hy17 => (intro w' hS'; go_simp; (try with_reducible rfl))
      try simp only [Act.put, List.setIfInBounds_toArray, List.set_cons_zero, List.set_cons_succ]
      refine sink_two 1 10 rfl rfl (by kernel_rfl) ?_ ?_
      · intro K hK
        go_simp
        obtain ⟨wA, hwA⟩ : ∃ wA, wA = (WR.alloc (.cells #[] 117 (0, 0))).drew := ⟨_, rfl⟩
        rw [← hwA]
        have hbA : Below Z WR.drew wA := by
          have q := ((Below.refl WR.heap.size WR).alloc (Nat.le_refl _) (.cells #[] 117 (0, 0))).drew
          rw [hwA, HZ.out]
          exact ⟨q.os, q.tape, q.output, q.size, q.block⟩
        have hSA := HS.out _ _ hbA hS0
        refine hK.out _ _ (fun _ => hSA) ?_
        have HzX := Lib.hid (show wA.heap.size = WR.heap.size + 1 from by rw [hwA]; show (World.alloc _ _).heap.size = _; simp)
        have OA : OwnF wA Z (.slice (some ⟨WR.heap.size, 0, none⟩) 0 0) [] := by rw [hwA, HZ.out]; exact World.ownsRow.drew (ownF_new WR)
        clear hK K hwA
        try simp only [Act.put, List.setIfInBounds_toArray, List.set_cons_zero, List.set_cons_succ]
        refine sink_two 8 10 rfl rfl (by kernel_rfl) ?_ ?_
        · intro K hK
          refine step_app rfl (.tmp 28) (.tmp 34) rfl Z _ [] rfl OA _ _ _ (d.files.take 0) rfl (HsT.out _ hbA) (by have := HL.out; simp only [List.length_nil]; omega) (by rw [HZ.out]; exact hbA.size) ?_
          intro v1 w1 ho1 hc1
          have hb1 : Below Z wA w1 := hc1.below (by rw [HZ.out]; exact hbA.size) (fun k hk e => by have := ((World.ownsRow.lt OA) k e).1; omega)
          have hb1w := hbA.trans hb1
          have hS1 := HS.out _ _ hb1 hSA
          refine hK.out _ _ (fun _ => hS1) ?_
          clear hK K
          try simp only [Act.put, List.setIfInBounds_toArray, List.set_cons_zero, List.set_cons_succ]
          refine sink_one 10 rfl (by kernel_rfl) ?_
          intro K hK
          go_simp
          obtain ⟨wP, hwP⟩ : ∃ wP, wP = w1.alloc (.cells #[.string nm, .string dt, .int .i64 sf] 117 (0, 0)) := ⟨_, rfl⟩
          rw [← hwP]
          have hbP : Below w1.heap.size w1 wP := by rw [hwP]; exact (Below.refl _ _).alloc (Nat.le_refl _) _
          have hz1 : Z ≤ w1.heap.size := by rw [HZ.out]; exact hb1w.size
          have hSP := HS.out _ _ (hbP.mono hz1) hS1
          have HBP := Lib.hid (hb1w.trans (hbP.mono hz1))
          have HO1 := Lib.hid (show OwnF wP Z v1 (d.files.take 0) from by rw [hwP]; exact World.ownsRow.alloc ho1 _)
          have HSB := Lib.hid (show SrcF wP (some ⟨w1.heap.size, 0, none⟩) 1 1 [(nm.data.toList, (⟨dt.data.toList, sf⟩ : Fl))] from srcNew (by rw [hwP]; exact Blk.alloc_new w1 _ _))
          have HZP := Lib.hid (show Z ≤ wP.heap.size from Nat.le_trans hz1 hbP.size)
          refine hK.out _ _ (fun _ => hSP) ?_
          clear hK K hwP hbP ho1 hc1 hb1 hb1w hS1 hSA OA
          try simp only [Act.put, List.setIfInBounds_toArray, List.set_cons_zero, List.set_cons_succ]
          refine sink_one 11 rfl (by kernel_rfl) ?_
          intro K hK
          refine step_app rfl (.tmp 35) (.tmp 37) rfl Z v1 (d.files.take 0) rfl HO1.out _ 1 1 [(nm.data.toList, (⟨dt.data.toList, sf⟩ : Fl))] rfl HSB.out (by have := HL.out; simp only [List.length_singleton]; omega) HZP.out ?_
          intro v2 w2 ho2 hc2
          have hb2 : Below Z wP w2 := hc2.below HZP.out (fun k hk e => by have := ((World.ownsRow.lt HO1.out) k e).1; omega)
          have HB2 := Lib.hid (HBP.out.trans hb2)
          have HO2 := Lib.hid ho2
          refine hK.out _ _ (fun _ => HS.out _ _ hb2 hSP) ?_
          have hS2 := HS.out _ _ hb2 hSP
          clear hK K ho2 hc2 hb2
          try simp only [Act.put, List.setIfInBounds_toArray, List.set_cons_zero, List.set_cons_succ]
          refine sink_one 18 rfl (by kernel_rfl) ?_
          intro K hK
          refine step_app rfl (.tmp 38) (.tmp 44) rfl Z v2 (d.files.take 0 ++ [(nm.data.toList, (⟨dt.data.toList, sf⟩ : Fl))]) rfl HO2.out none 0 0 (d.files.drop 0) rfl (HsD.out _ HB2.out) (by have := HL.out; simp only [List.length_append, List.length_singleton]; omega) (by rw [HZ.out]; exact HB2.out.size) ?_
          intro v3 w3 ho3 hc3
          have hb3 : Below Z w2 w3 := hc3.below (by rw [HZ.out]; exact HB2.out.size) (fun k hk e => by have := ((World.ownsRow.lt HO2.out) k e).1; omega)
          have HB3 := Lib.hid (HB2.out.trans hb3)
          rw [HLI.out] at ho3
          have ho4 : OwnF w3 w.heap.size v3 (ins (nm.data.toList, ⟨dt.data.toList, sf⟩) d.files) := ho3.base (by omega)
          have Hfin := Lib.hid (row_end H.out.blk (HBW.out _ HB3.out) ho4)
          refine hK.out _ _ (fun _ => HS.out _ _ hb3 hS2) ?_
          have hS3 := HS.out _ _ hb3 hS2
          have hfz := HF.out _ HB3.out
          obtain ⟨x3, cc3, hv3, _⟩ := ho4.shape
          generalize (ins (nm.data.toList, (⟨dt.data.toList, sf⟩ : Fl)) d.files).length = N3 at hv3
          subst hv3
          clear hK K ho3 hc3 hb3 ho4 hS2
          try simp only [Act.put, List.setIfInBounds_toArray, List.set_cons_zero, List.set_cons_succ]
          refine sink_one 19 rfl (by kernel_rfl) ?_
          intro K hK
          go_simp
          refine hK.out _ _ (fun _ => hS3) ?_
          clear hK K
          refine sink_one 20 rfl (by kernel_rfl) ?_
          intro K hK
          go_simp
          refine hK.out _ _ (fun _ => hS3) ?_
          clear hK K
          refine sink_one 21 rfl (by kernel_rfl) ?_
          intro K hK
          obtain ⟨hs31, _⟩ := hS3
          go_simp
          refine hK.out _ _ (fun e => absurd rfl e) ?_
          refine sink_done (by kernel_rfl) ?_ _
          refine bodyPost_end (results_none rfl _ _ _) rfl ?_
          exact ⟨rfl, _, Hfin.out⟩
        · intro K hK
          go_simp
          obtain ⟨wB, hwB⟩ : ∃ wB, wB = wA.alloc (.cells #[.string nm, .string dt, .int .i64 sf] 117 (0, 0)) := ⟨_, rfl⟩
          rw [← hwB]
          have hbB : Below wA.heap.size wA wB := by rw [hwB]; exact (Below.refl _ _).alloc (Nat.le_refl _) _
          have hzz : Z ≤ wA.heap.size := by rw [HZ.out]; exact hbA.size
          have hSB := HS.out _ _ (hbB.mono hzz) hSA
          have hbBw := hbA.trans (hbB.mono hzz)
          have OB : OwnF wB Z (.slice (some ⟨WR.heap.size, 0, none⟩) 0 0) [] := by rw [hwB]; exact World.ownsRow.alloc OA _
          have KB : Blk wB wA.heap.size 117 #[.string nm, .string dt, .int .i64 sf] := by rw [hwB]; exact Blk.alloc_new wA _ _
          refine hK.out _ _ (fun _ => hSB) ?_
          clear hK K hwB
          try simp only [Act.put, List.setIfInBounds_toArray, List.set_cons_zero, List.set_cons_succ]
          refine sink_one 8 rfl (by kernel_rfl) ?_
          intro K hK
          refine step_app rfl (.tmp 28) (.tmp 34) rfl Z _ [] rfl OB _ _ _ (d.files.take 0) rfl (HsT.out _ hbBw) (by have := HL.out; simp only [List.length_nil]; omega) (by rw [HZ.out]; exact hbBw.size) ?_
          intro v1 w1 ho1 hc1
          have hb1 : Below Z wB w1 := hc1.below (by rw [HZ.out]; exact hbBw.size) (fun k hk e => by have := ((World.ownsRow.lt OB) k e).1; omega)
          have hb1w := hbBw.trans hb1
          have hS1 := HS.out _ _ hb1 hSB
          refine hK.out _ _ (fun _ => hS1) ?_
          clear hK K
          try simp only [Act.put, List.setIfInBounds_toArray, List.set_cons_zero, List.set_cons_succ]
          have HBP := Lib.hid hb1w
          have HO1 := Lib.hid (show OwnF w1 Z v1 (d.files.take 0) from ho1)
          have HSB := Lib.hid (show SrcF w1 (some ⟨wA.heap.size, 0, none⟩) 1 1 [(nm.data.toList, (⟨dt.data.toList, sf⟩ : Fl))] from srcNew (KB.chg hc1 (fun e => by have e2 := Option.some.inj (show some WR.heap.size = some wA.heap.size from e); have hzz := HzX.out; omega)))
          have HZP := Lib.hid (show Z ≤ w1.heap.size from by rw [HZ.out]; exact hb1w.size)
          have hSP := hS1
          clear ho1 hc1 hb1 hb1w hbBw hbB hSB OA OB KB hSA hbA hS1
          refine sink_one 11 rfl (by kernel_rfl) ?_
          intro K hK
          refine step_app rfl (.tmp 35) (.tmp 37) rfl Z v1 (d.files.take 0) rfl HO1.out _ 1 1 [(nm.data.toList, (⟨dt.data.toList, sf⟩ : Fl))] rfl HSB.out (by have := HL.out; simp only [List.length_singleton]; omega) HZP.out ?_
          intro v2 w2 ho2 hc2
          have hb2 : Below Z w1 w2 := hc2.below HZP.out (fun k hk e => by have := ((World.ownsRow.lt HO1.out) k e).1; omega)
          have HB2 := Lib.hid (HBP.out.trans hb2)
          have HO2 := Lib.hid ho2
          refine hK.out _ _ (fun _ => HS.out _ _ hb2 hSP) ?_
          have hS2 := HS.out _ _ hb2 hSP
          clear hK K ho2 hc2 hb2
          try simp only [Act.put, List.setIfInBounds_toArray, List.set_cons_zero, List.set_cons_succ]
          refine sink_one 18 rfl (by kernel_rfl) ?_
          intro K hK
          refine step_app rfl (.tmp 38) (.tmp 44) rfl Z v2 (d.files.take 0 ++ [(nm.data.toList, (⟨dt.data.toList, sf⟩ : Fl))]) rfl HO2.out none 0 0 (d.files.drop 0) rfl (HsD.out _ HB2.out) (by have := HL.out; simp only [List.length_append, List.length_singleton]; omega) (by rw [HZ.out]; exact HB2.out.size) ?_
          intro v3 w3 ho3 hc3
          have hb3 : Below Z w2 w3 := hc3.below (by rw [HZ.out]; exact HB2.out.size) (fun k hk e => by have := ((World.ownsRow.lt HO2.out) k e).1; omega)
          have HB3 := Lib.hid (HB2.out.trans hb3)
          rw [HLI.out] at ho3
          have ho4 : OwnF w3 w.heap.size v3 (ins (nm.data.toList, ⟨dt.data.toList, sf⟩) d.files) := ho3.base (by omega)
          have Hfin := Lib.hid (row_end H.out.blk (HBW.out _ HB3.out) ho4)
          refine hK.out _ _ (fun _ => HS.out _ _ hb3 hS2) ?_
          have hS3 := HS.out _ _ hb3 hS2
          have hfz := HF.out _ HB3.out
          obtain ⟨x3, cc3, hv3, _⟩ := ho4.shape
          generalize (ins (nm.data.toList, (⟨dt.data.toList, sf⟩ : Fl)) d.files).length = N3 at hv3
          subst hv3
          clear hK K ho3 hc3 hb3 ho4 hS2
          try simp only [Act.put, List.setIfInBounds_toArray, List.set_cons_zero, List.set_cons_succ]
          refine sink_one 19 rfl (by kernel_rfl) ?_
          intro K hK
          go_simp
          refine hK.out _ _ (fun _ => hS3) ?_
          clear hK K
          refine sink_one 20 rfl (by kernel_rfl) ?_
          intro K hK
          go_simp
          refine hK.out _ _ (fun _ => hS3) ?_
          clear hK K
          refine sink_one 21 rfl (by kernel_rfl) ?_
          intro K hK
          obtain ⟨hs31, _⟩ := hS3
          go_simp
          refine hK.out _ _ (fun e => absurd rfl e) ?_
          refine sink_done (by kernel_rfl) ?_ _
          refine bodyPost_end (results_none rfl _ _ _) rfl ?_
          exact ⟨rfl, _, Hfin.out⟩
      · intro K hK
        go_simp
        obtain ⟨wB, hwB⟩ : ∃ wB, wB = (WR.alloc (.cells #[.string nm, .string dt, .int .i64 sf] 117 (0, 0))).drew := ⟨_, rfl⟩
        rw [← hwB]
        have hbB : Below Z WR.drew wB := by
          have q := ((Below.refl WR.heap.size WR).alloc (Nat.le_refl _) (.cells #[.string nm, .string dt, .int .i64 sf] 117 (0, 0))).drew
          rw [hwB, HZ.out]
          exact ⟨q.os, q.tape, q.output, q.size, q.block⟩
        have hSB := HS.out _ _ hbB hS0
        refine hK.out _ _ (fun _ => hSB) ?_
        have HzX := Lib.hid (show wB.heap.size = WR.heap.size + 1 from by rw [hwB]; show (World.alloc _ _).heap.size = _; simp)
        have KB : Blk wB WR.heap.size 117 #[.string nm, .string dt, .int .i64 sf] := by rw [hwB]; exact Blk.drewN (Blk.alloc_new WR _ _) 1
        clear hK K hwB
        try simp only [Act.put, List.setIfInBounds_toArray, List.set_cons_zero, List.set_cons_succ]
        refine sink_one 1 rfl (by kernel_rfl) ?_
        intro K hK
        go_simp
        obtain ⟨wA, hwA⟩ : ∃ wA, wA = wB.alloc (.cells #[] 117 (0, 0)) := ⟨_, rfl⟩
        rw [← hwA]
        have hbA : Below wB.heap.size wB wA := by rw [hwA]; exact (Below.refl _ _).alloc (Nat.le_refl _) _
        have hzz : Z ≤ wB.heap.size := by rw [HZ.out]; exact hbB.size
        have hSA := HS.out _ _ (hbA.mono hzz) hSB
        have hbAw := hbB.trans (hbA.mono hzz)
        have OA : OwnF wA Z (.slice (some ⟨wB.heap.size, 0, none⟩) 0 0) [] := by rw [hwA]; exact OwnF.base (ownF_new wB) hzz
        have KA := KB.below hbA
        refine hK.out _ _ (fun _ => hSA) ?_
        clear hK K hwA
        try simp only [Act.put, List.setIfInBounds_toArray, List.set_cons_zero, List.set_cons_succ]
        refine sink_one 8 rfl (by kernel_rfl) ?_
        intro K hK
        refine step_app rfl (.tmp 28) (.tmp 34) rfl Z _ [] rfl OA _ _ _ (d.files.take 0) rfl (HsT.out _ hbAw) (by have := HL.out; simp only [List.length_nil]; omega) (by rw [HZ.out]; exact hbAw.size) ?_
        intro v1 w1 ho1 hc1
        have hb1 : Below Z wA w1 := hc1.below (by rw [HZ.out]; exact hbAw.size) (fun k hk e => by have := ((World.ownsRow.lt OA) k e).1; omega)
        have hb1w := hbAw.trans hb1
        have hS1 := HS.out _ _ hb1 hSA
        refine hK.out _ _ (fun _ => hS1) ?_
        clear hK K
        try simp only [Act.put, List.setIfInBounds_toArray, List.set_cons_zero, List.set_cons_succ]
        have HBP := Lib.hid hb1w
        have HO1 := Lib.hid (show OwnF w1 Z v1 (d.files.take 0) from ho1)
        have HSB := Lib.hid (show SrcF w1 (some ⟨WR.heap.size, 0, none⟩) 1 1 [(nm.data.toList, (⟨dt.data.toList, sf⟩ : Fl))] from srcNew (KA.chg hc1 (fun e => by have e2 := Option.some.inj (show some wB.heap.size = some WR.heap.size from e); have hzz := HzX.out; omega)))
        have HZP := Lib.hid (show Z ≤ w1.heap.size from by rw [HZ.out]; exact hb1w.size)
        have hSP := hS1
        clear ho1 hc1 hb1 hb1w hbAw hbA hSA OA KA KB hSB hbB hS1
        refine sink_one 11 rfl (by kernel_rfl) ?_
        intro K hK
        refine step_app rfl (.tmp 35) (.tmp 37) rfl Z v1 (d.files.take 0) rfl HO1.out _ 1 1 [(nm.data.toList, (⟨dt.data.toList, sf⟩ : Fl))] rfl HSB.out (by have := HL.out; simp only [List.length_singleton]; omega) HZP.out ?_
        intro v2 w2 ho2 hc2
        have hb2 : Below Z w1 w2 := hc2.below HZP.out (fun k hk e => by have := ((World.ownsRow.lt HO1.out) k e).1; omega)
        have HB2 := Lib.hid (HBP.out.trans hb2)
        have HO2 := Lib.hid ho2
        refine hK.out _ _ (fun _ => HS.out _ _ hb2 hSP) ?_
        have hS2 := HS.out _ _ hb2 hSP
        clear hK K ho2 hc2 hb2
        try simp only [Act.put, List.setIfInBounds_toArray, List.set_cons_zero, List.set_cons_succ]
        refine sink_one 18 rfl (by kernel_rfl) ?_
        intro K hK
        refine step_app rfl (.tmp 38) (.tmp 44) rfl Z v2 (d.files.take 0 ++ [(nm.data.toList, (⟨dt.data.toList, sf⟩ : Fl))]) rfl HO2.out none 0 0 (d.files.drop 0) rfl (HsD.out _ HB2.out) (by have := HL.out; simp only [List.length_append, List.length_singleton]; omega) (by rw [HZ.out]; exact HB2.out.size) ?_
        intro v3 w3 ho3 hc3
        have hb3 : Below Z w2 w3 := hc3.below (by rw [HZ.out]; exact HB2.out.size) (fun k hk e => by have := ((World.ownsRow.lt HO2.out) k e).1; omega)
        have HB3 := Lib.hid (HB2.out.trans hb3)
        rw [HLI.out] at ho3
        have ho4 : OwnF w3 w.heap.size v3 (ins (nm.data.toList, ⟨dt.data.toList, sf⟩) d.files) := ho3.base (by omega)
        have Hfin := Lib.hid (row_end H.out.blk (HBW.out _ HB3.out) ho4)
        refine hK.out _ _ (fun _ => HS.out _ _ hb3 hS2) ?_
        have hS3 := HS.out _ _ hb3 hS2
        have hfz := HF.out _ HB3.out
        obtain ⟨x3, cc3, hv3, _⟩ := ho4.shape
        generalize (ins (nm.data.toList, (⟨dt.data.toList, sf⟩ : Fl)) d.files).length = N3 at hv3
        subst hv3
        clear hK K ho3 hc3 hb3 ho4 hS2
        try simp only [Act.put, List.setIfInBounds_toArray, List.set_cons_zero, List.set_cons_succ]
        refine sink_one 19 rfl (by kernel_rfl) ?_
        intro K hK
        go_simp
        refine hK.out _ _ (fun _ => hS3) ?_
        clear hK K
        refine sink_one 20 rfl (by kernel_rfl) ?_
        intro K hK
        go_simp
        refine hK.out _ _ (fun _ => hS3) ?_
        clear hK K
        refine sink_one 21 rfl (by kernel_rfl) ?_
        intro K hK
        obtain ⟨hs31, _⟩ := hS3
        go_simp
        refine hK.out _ _ (fun e => absurd rfl e) ?_
        refine sink_done (by kernel_rfl) ?_ _
        refine bodyPost_end (results_none rfl _ _ _) rfl ?_
        exact ⟨rfl, _, Hfin.out⟩
  have HCL0 := Lib.hid hcl
  have HB1 := Lib.hid hb
  clear hcl hb
  have c4 := h.blk.cell 4
  have f4 := h.blk.free 4
  simp at c4
  have hbr := h.blk.lt
  obtain ⟨wb, hwb⟩ : ∃ wb, wb = w.alloc (.cells #[.string nm, .string dt, .int .i64 sf] 117 (0, 0)) := ⟨_, rfl⟩
  have hb0 : Below w.heap.size w wb := by rw [hwb]; exact (Below.refl _ _).alloc (Nat.le_refl _) _
  have hbx : Blk wb w.heap.size 117 #[.string nm, .string dt, .int .i64 sf] := by rw [hwb]; exact Blk.alloc_new w _ _
  have x0 := hbx.cell 0
  have x1 := hbx.cell 1
  have x2 := hbx.cell 2
  simp at x0 x1 x2
  have ca := (hb0.cell (p := ⟨br, 4, none⟩) hbr).trans c4
  have fa := (hb0.frozen (p := ⟨br, 4, none⟩) hbr).trans f4
  have H := Lib.hid h
  have HB0 := Lib.hid hb0
  have HBx := Lib.hid hbx
  have HW := Lib.hid hwb
  have Hnew := Lib.hid hnew
  have hzb : wb.heap.size = w.heap.size + 1 := by rw [hwb]; simp
  clear h hb0 hbx hwb c4 f4 hnew
  go_enter Try.func85, Try.ntmps85
  go_wp2_with fail
  rw [← HW.out]
  go_loopw [4] (fun v4 wr => ∃ k nd : Nat, v4 = .int .i64 k ∧ k ≤ d.files.length ∧ wr = wb.drewN nd ∧ ∀ (j : Nat) (hj : j < d.files.length), j < k → bytesBefore d.files[j].1 nm.data.toList = true) (fun v4 _ => d.files.length - (intOf v4).toNat)
  case atStart => exact ⟨0, 0, rfl, Nat.zero_le _, rfl, fun _ _ e => absurd e (Nat.not_lt_zero _)⟩
  case round =>
    obtain ⟨k, nd, rfl, hk, rfl, hall⟩ := hrel
    have Hall := Lib.hid hall
    clear hall
    by_cases hlt : k < d.files.length
    · have hcl := HCL0.out
      have hb := HB1.out
      have hc0 := (HB0.out.cell (p := ⟨b, k * 3, none⟩) hb).trans (hcl k hlt).1
      obtain ⟨s, hs⟩ : ∃ s : ByteArray, s = ⟨d.files[k].1.toArray⟩ := ⟨_, rfl⟩
      rw [← hs] at hc0
      have hsl : s.toList = d.files[k].1 := by rw [hs, ByteArray.toList_eq]
      have hi2 : (k : Int) < d.files.length := by omega
      have hnl : nm.toList = nm.data.toList := ByteArray.toList_eq _
      cases hless : Op.bytesLess s.toList nm.toList with
      | true =>
        have Hl := Lib.hid (show bytesBefore d.files[k].1 nm.data.toList = true by rw [← hsl, ← hnl, ← bytesLess_before]; exact hless)
        clear hcl hs hsl hnl
        go_wp2_with fail
        go_quiet (fail)
        go_wp2_with fail
        go_roundw
        case rel =>
          refine ⟨k + 1, nd + nq, by go_num, by omega, rfl, fun j hj hjk => ?_⟩
          by_cases e : j = k
          · subst e; exact Hl.out
          · exact Hall.out j hj (by omega)
        case measure => simp [intOf]; omega
      | false =>
        have HCL := Lib.hid (show ∀ i (hi : i < d.files.length), w.cell? ⟨b, i * 3, none⟩ = some (.string ⟨d.files[i].1.toArray⟩) ∧ w.cell? ⟨b, i * 3 + 1, none⟩ = some (.string ⟨d.files[i].2.data.toArray⟩) ∧ w.cell? ⟨b, i * 3 + 2, none⟩ = some (.int .i64 d.files[i].2.safe) from hcl)
        have HBb := Lib.hid hb
        have Hl := Lib.hid (show bytesBefore d.files[k].1 nm.data.toList = false by rw [← hsl, ← hnl, ← bytesLess_before]; exact hless)
        clear hcl hs hsl hnl
        go_wp2_with fail
        go_quiet (fail)
        go_wp2_with fail
        obtain ⟨WR, hWR⟩ : ∃ WR, WR = (wb.drewN nd).drewN nq := ⟨_, rfl⟩
        rw [← hWR]
        have HbR := Lib.hid (show Below wb.heap.size wb WR.drew by rw [hWR]; exact (below_drewN (below_drewN (Below.refl _ _) nd) nq).drew)
        have hlb : w.heap.size < wb.heap.size := by omega
        have hbr2 : br < wb.heap.size := by omega
        obtain ⟨Z, hZ⟩ : ∃ Z, Z = WR.drew.heap.size := ⟨_, rfl⟩
        have HZ := Lib.hid hZ
        have hZb : wb.heap.size ≤ Z := by rw [hZ]; exact HbR.out.size
        have hS0 : WR.drew.cell? ⟨br, 4, none⟩ = some (.slice (some ⟨b, 0, none⟩) d.files.length c) ∧ WR.drew.cell? ⟨w.heap.size, 0, none⟩ = some (.string nm) ∧ WR.drew.cell? ⟨w.heap.size, 1, none⟩ = some (.string dt) ∧ WR.drew.cell? ⟨w.heap.size, 2, none⟩ = some (.int .i64 sf) :=
          ⟨(HbR.out.cell (p := ⟨br, 4, none⟩) hbr2).trans ca, (HbR.out.cell (p := ⟨w.heap.size, 0, none⟩) hlb).trans x0, (HbR.out.cell (p := ⟨w.heap.size, 1, none⟩) hlb).trans x1, (HbR.out.cell (p := ⟨w.heap.size, 2, none⟩) hlb).trans x2⟩
        have HS := Lib.hid (show ∀ W1 W2 : World, Below Z W1 W2 → (W1.cell? ⟨br, 4, none⟩ = some (.slice (some ⟨b, 0, none⟩) d.files.length c) ∧ W1.cell? ⟨w.heap.size, 0, none⟩ = some (.string nm) ∧ W1.cell? ⟨w.heap.size, 1, none⟩ = some (.string dt) ∧ W1.cell? ⟨w.heap.size, 2, none⟩ = some (.int .i64 sf)) → (W2.cell? ⟨br, 4, none⟩ = some (.slice (some ⟨b, 0, none⟩) d.files.length c) ∧ W2.cell? ⟨w.heap.size, 0, none⟩ = some (.string nm) ∧ W2.cell? ⟨w.heap.size, 1, none⟩ = some (.string dt) ∧ W2.cell? ⟨w.heap.size, 2, none⟩ = some (.int .i64 sf)) from fun W1 W2 hb hs =>
          ⟨(hb.cell (p := ⟨br, 4, none⟩) (by show br < Z; omega)).trans hs.1, (hb.cell (p := ⟨w.heap.size, 0, none⟩) (by show w.heap.size < Z; omega)).trans hs.2.1, (hb.cell (p := ⟨w.heap.size, 1, none⟩) (by show w.heap.size < Z; omega)).trans hs.2.2.1, (hb.cell (p := ⟨w.heap.size, 2, none⟩) (by show w.heap.size < Z; omega)).trans hs.2.2.2⟩)
        have HF := Lib.hid (show ∀ W : World, Below Z WR.drew W → W.frozen? ⟨br, 4, none⟩ = false from fun W hb => (hb.frozen (p := ⟨br, 4, none⟩) (by show br < Z; omega)).trans ((HbR.out.frozen (p := ⟨br, 4, none⟩) hbr2).trans fa))
        have HBW := Lib.hid (show ∀ W : World, Below Z WR.drew W → Below w.heap.size w W from fun W hb => (HB0.out.trans (HbR.out.mono (by omega))).trans (hb.mono (by omega)))
        have HsT := Lib.hid (show ∀ W : World, Below Z WR.drew W → SrcF W (some ⟨b, 0, none⟩) k c (d.files.take k) from fun W hb => ⟨by rw [List.length_take]; omega, .inr ⟨_, rfl, fun j u hj => by
          have := cellsF_part HCL.out 0 k j u (by rw [List.drop_zero]; exact hj)
          rw [add_none] at this ⊢
          rw [Nat.zero_mul] at this
          exact ((HBW.out W hb).cell (p := ⟨b, _, none⟩) HBb.out).trans this⟩⟩)
        have HsD := Lib.hid (show ∀ W : World, Below Z WR.drew W → SrcF W (some ⟨b, k * 3, none⟩) (d.files.length - k) (c - k) (d.files.drop k) from fun W hb => ⟨(List.length_drop).trans (by omega), .inr ⟨_, rfl, fun j u hj => by
          have := cellsF_part HCL.out k (d.files.length - k) j u (by rw [List.take_of_length_le (by rw [List.length_drop]; omega)]; exact hj)
          rw [add_none] at this ⊢
          exact ((HBW.out W hb).cell (p := ⟨b, _, none⟩) HBb.out).trans this⟩⟩)
        have hkne : ¬ (c = k) := by omega
        have hkc : (k : Int) ≤ c := by omega
        have hkl2 : (k : Int) ≤ d.files.length := by omega
        have hlc2 : (d.files.length : Int) ≤ c := by omega
        have HL := Lib.hid (show (d.files.take k).length + (d.files.drop k).length ≤ 2000 by rw [List.length_take, List.length_drop]; omega)
        have HLI := Lib.hid (lay_ins H.out.ok.rising Hnew.out hk Hall.out (fun _ => Hl.out) ⟨dt.data.toList, sf⟩)
        clear hWR hZ
        refine wp_region_sink (S := fun w' => w'.cell? ⟨br, 4, none⟩ = some (.slice (some ⟨b, 0, none⟩) d.files.length c) ∧ w'.cell? ⟨w.heap.size, 0, none⟩ = some (.string nm) ∧ w'.cell? ⟨w.heap.size, 1, none⟩ = some (.string dt) ∧ w'.cell? ⟨w.heap.size, 2, none⟩ = some (.int .i64 sf)) (n := 21) (by kernel_rfl) ?_
        refine sink_take 0 (some 27) (v := ?_) rfl rfl (by kernel_rfl) (by kernel_rfl) (by kernel_rfl) (by kernel_rfl) (by decide) (fun _ _ _ h => h) (Or.inl ⟨by rfl, ?hy0⟩) (by assumption) ?_
        case hy0 => (intro w' hS'; go_simp; (try with_reducible rfl))
        try simp only [Act.put, List.setIfInBounds_toArray, List.set_cons_zero, List.set_cons_succ]
        refine sink_take 2 (some 29) (v := ?_) rfl rfl (by kernel_rfl) (by kernel_rfl) (by kernel_rfl) (by kernel_rfl) (by decide) (fun _ _ _ h => h) (Or.inl ⟨by rfl, ?hy2⟩) (by assumption) ?_
        case hy2 => (intro w' hS'; go_simp; (try with_reducible rfl))
        try simp only [Act.put, List.setIfInBounds_toArray, List.set_cons_zero, List.set_cons_succ]
        refine sink_take 3 (some 30) (v := ?_) rfl rfl (by kernel_rfl) (by kernel_rfl) (by kernel_rfl) (by kernel_rfl) (by decide) (fun _ _ _ h => h) (Or.inl ⟨by rfl, ?hy3⟩) (by assumption) ?_
        case hy3 => (intro w' hS'; go_simp; (try with_reducible rfl))
        try simp only [Act.put, List.setIfInBounds_toArray, List.set_cons_zero, List.set_cons_succ]
        refine sink_take 4 (some 31) (v := ?_) rfl rfl (by kernel_rfl) (by kernel_rfl) (by kernel_rfl) (by kernel_rfl) (by decide) (fun _ _ _ h => h) (Or.inl ⟨by rfl, ?hy4⟩) (by assumption) ?_
        case hy4 => (intro w' hS'; go_simp; (try with_reducible rfl))
        try simp only [Act.put, List.setIfInBounds_toArray, List.set_cons_zero, List.set_cons_succ]
        refine sink_take 5 (some 32) (v := ?_) rfl rfl (by kernel_rfl) (by kernel_rfl) (by kernel_rfl) (by kernel_rfl) (by decide) (fun _ _ _ h => h) (Or.inl ⟨by rfl, ?hy5⟩) (by assumption) ?_
        case hy5 => (intro w' hS'; go_simp; (try with_reducible rfl))
        try simp only [Act.put, List.setIfInBounds_toArray, List.set_cons_zero, List.set_cons_succ]
        refine sink_take 6 (some 33) (v := ?_) rfl rfl (by kernel_rfl) (by kernel_rfl) (by kernel_rfl) (by kernel_rfl) (by decide) (fun _ _ _ h => h) (Or.inl ⟨by rfl, ?hy6⟩) (by assumption) ?_
        case hy6 => (intro w' hS'; go_simp; (try with_reducible rfl))
        try simp only [Act.put, List.setIfInBounds_toArray, List.set_cons_zero, List.set_cons_succ]
        refine sink_take 7 (some 34) (v := ?_) rfl rfl (by kernel_rfl) (by kernel_rfl) (by kernel_rfl) (by kernel_rfl) (by decide) (fun _ _ _ h => h) (Or.inl ⟨by rfl, ?hy7⟩) (by assumption) ?_
        case hy7 => (intro w' hS'; go_simp; (try with_reducible rfl))
        try simp only [Act.put, List.setIfInBounds_toArray, List.set_cons_zero, List.set_cons_succ]
        refine sink_take 9 (some 36) (v := ?_) rfl rfl (by kernel_rfl) (by kernel_rfl) (by kernel_rfl) (by kernel_rfl) (by decide) (fun _ _ _ h => h) (Or.inl ⟨by rfl, ?hy9⟩) (by assumption) ?_
        case hy9 => (intro w' hS'; go_simp; (try with_reducible rfl))
        try simp only [Act.put, List.setIfInBounds_toArray, List.set_cons_zero, List.set_cons_succ]
        refine sink_take 12 (some 39) (v := ?_) rfl rfl (by kernel_rfl) (by kernel_rfl) (by kernel_rfl) (by kernel_rfl) (by decide) (fun _ _ _ h => h) (Or.inl ⟨by rfl, ?hy12⟩) (by assumption) ?_
        case hy12 => (intro w' hS'; go_simp; (try with_reducible rfl))
        try simp only [Act.put, List.setIfInBounds_toArray, List.set_cons_zero, List.set_cons_succ]
        refine sink_take 13 (some 40) (v := ?_) rfl rfl (by kernel_rfl) (by kernel_rfl) (by kernel_rfl) (by kernel_rfl) (by decide) (fun _ _ _ h => h) (Or.inl ⟨by rfl, ?hy13⟩) (by assumption) ?_
        case hy13 => (intro w' hS'; go_simp; (try with_reducible rfl))
        try simp only [Act.put, List.setIfInBounds_toArray, List.set_cons_zero, List.set_cons_succ]
        refine sink_take 14 (some 41) (v := ?_) rfl rfl (by kernel_rfl) (by kernel_rfl) (by kernel_rfl) (by kernel_rfl) (by decide) (fun _ _ _ h => h) (Or.inl ⟨by rfl, ?hy14⟩) (by assumption) ?_
        case hy14 => (intro w' hS'; go_simp; (try with_reducible rfl))
        try simp only [Act.put, List.setIfInBounds_toArray, List.set_cons_zero, List.set_cons_succ]
        refine sink_take 15 (some 42) (v := ?_) rfl rfl (by kernel_rfl) (by kernel_rfl) (by kernel_rfl) (by kernel_rfl) (by decide) (fun _ _ _ h => h) (Or.inl ⟨by rfl, ?hy15⟩) (by assumption) ?_
        case hy15 => (intro w' hS'; go_simp; (try with_reducible rfl))
        try simp only [Act.put, List.setIfInBounds_toArray, List.set_cons_zero, List.set_cons_succ]
        refine sink_take 16 (some 43) (v := ?_) rfl rfl (by kernel_rfl) (by kernel_rfl) (by kernel_rfl) (by kernel_rfl) (by decide) (fun _ _ _ h => h) (Or.inl ⟨by rfl, ?hy16⟩) (by assumption) ?_
        case hy16 => (intro w' hS'; go_simp; (try with_reducible rfl))
        try simp only [Act.put, List.setIfInBounds_toArray, List.set_cons_zero, List.set_cons_succ]
        refine sink_take 17 (some 44) (v := ?_) rfl rfl (by kernel_rfl) (by kernel_rfl) (by kernel_rfl) (by kernel_rfl) (by decide) (fun _ _ _ h => h) (Or.inl ⟨by rfl, ?hy17⟩) (by assumption) ?_
        case hy17 => (intro w' hS'; go_simp; (try with_reducible rfl))
        try simp only [Act.put, List.setIfInBounds_toArray, List.set_cons_zero, List.set_cons_succ]
        refine sink_two 1 10 rfl rfl (by kernel_rfl) ?_ ?_
        · intro K hK
          go_simp
          obtain ⟨wA, hwA⟩ : ∃ wA, wA = (WR.alloc (.cells #[] 117 (0, 0))).drew := ⟨_, rfl⟩
          rw [← hwA]
          have hbA : Below Z WR.drew wA := by
            have q := ((Below.refl WR.heap.size WR).alloc (Nat.le_refl _) (.cells #[] 117 (0, 0))).drew
            rw [hwA, HZ.out]
            exact ⟨q.os, q.tape, q.output, q.size, q.block⟩
          have hSA := HS.out _ _ hbA hS0
          refine hK.out _ _ (fun _ => hSA) ?_
          have HzX := Lib.hid (show wA.heap.size = WR.heap.size + 1 from by rw [hwA]; show (World.alloc _ _).heap.size = _; simp)
          have OA : OwnF wA Z (.slice (some ⟨WR.heap.size, 0, none⟩) 0 0) [] := by rw [hwA, HZ.out]; exact World.ownsRow.drew (ownF_new WR)
          clear hK K hwA
          try simp only [Act.put, List.setIfInBounds_toArray, List.set_cons_zero, List.set_cons_succ]
          refine sink_two 8 10 rfl rfl (by kernel_rfl) ?_ ?_
          · intro K hK
            refine step_app rfl (.tmp 28) (.tmp 34) rfl Z _ [] rfl OA _ _ _ (d.files.take k) rfl (HsT.out _ hbA) (by have := HL.out; simp only [List.length_nil]; omega) (by rw [HZ.out]; exact hbA.size) ?_
            intro v1 w1 ho1 hc1
            have hb1 : Below Z wA w1 := hc1.below (by rw [HZ.out]; exact hbA.size) (fun k hk e => by have := ((World.ownsRow.lt OA) k e).1; omega)
            have hb1w := hbA.trans hb1
            have hS1 := HS.out _ _ hb1 hSA
            refine hK.out _ _ (fun _ => hS1) ?_
            clear hK K
            try simp only [Act.put, List.setIfInBounds_toArray, List.set_cons_zero, List.set_cons_succ]
            refine sink_one 10 rfl (by kernel_rfl) ?_
            intro K hK
            go_simp
            obtain ⟨wP, hwP⟩ : ∃ wP, wP = w1.alloc (.cells #[.string nm, .string dt, .int .i64 sf] 117 (0, 0)) := ⟨_, rfl⟩
            rw [← hwP]
            have hbP : Below w1.heap.size w1 wP := by rw [hwP]; exact (Below.refl _ _).alloc (Nat.le_refl _) _
            have hz1 : Z ≤ w1.heap.size := by rw [HZ.out]; exact hb1w.size
            have hSP := HS.out _ _ (hbP.mono hz1) hS1
            have HBP := Lib.hid (hb1w.trans (hbP.mono hz1))
            have HO1 := Lib.hid (show OwnF wP Z v1 (d.files.take k) from by rw [hwP]; exact World.ownsRow.alloc ho1 _)
            have HSB := Lib.hid (show SrcF wP (some ⟨w1.heap.size, 0, none⟩) 1 1 [(nm.data.toList, (⟨dt.data.toList, sf⟩ : Fl))] from srcNew (by rw [hwP]; exact Blk.alloc_new w1 _ _))
            have HZP := Lib.hid (show Z ≤ wP.heap.size from Nat.le_trans hz1 hbP.size)
            refine hK.out _ _ (fun _ => hSP) ?_
            clear hK K hwP hbP ho1 hc1 hb1 hb1w hS1 hSA OA
            try simp only [Act.put, List.setIfInBounds_toArray, List.set_cons_zero, List.set_cons_succ]
    
            refine sink_one 11 rfl (by kernel_rfl) ?_
            intro K hK
            refine step_app rfl (.tmp 35) (.tmp 37) rfl Z v1 (d.files.take k) rfl HO1.out _ 1 1 [(nm.data.toList, (⟨dt.data.toList, sf⟩ : Fl))] rfl HSB.out (by have := HL.out; simp only [List.length_singleton]; omega) HZP.out ?_
            intro v2 w2 ho2 hc2
            have hb2 : Below Z wP w2 := hc2.below HZP.out (fun k hk e => by have := ((World.ownsRow.lt HO1.out) k e).1; omega)
            have HB2 := Lib.hid (HBP.out.trans hb2)
            have HO2 := Lib.hid ho2
            refine hK.out _ _ (fun _ => HS.out _ _ hb2 hSP) ?_
            have hS2 := HS.out _ _ hb2 hSP
            clear hK K ho2 hc2 hb2
            try simp only [Act.put, List.setIfInBounds_toArray, List.set_cons_zero, List.set_cons_succ]
    
            refine sink_one 18 rfl (by kernel_rfl) ?_
            intro K hK
            refine step_app rfl (.tmp 38) (.tmp 44) rfl Z v2 (d.files.take k ++ [(nm.data.toList, (⟨dt.data.toList, sf⟩ : Fl))]) rfl HO2.out (some ⟨b, k * 3, none⟩) (d.files.length - k) (c - k) (d.files.drop k) rfl (HsD.out _ HB2.out) (by have := HL.out; simp only [List.length_append, List.length_singleton]; omega) (by rw [HZ.out]; exact HB2.out.size) ?_
            intro v3 w3 ho3 hc3
            have hb3 : Below Z w2 w3 := hc3.below (by rw [HZ.out]; exact HB2.out.size) (fun k hk e => by have := ((World.ownsRow.lt HO2.out) k e).1; omega)
            have HB3 := Lib.hid (HB2.out.trans hb3)
            rw [HLI.out] at ho3
            have ho4 : OwnF w3 w.heap.size v3 (ins (nm.data.toList, ⟨dt.data.toList, sf⟩) d.files) := ho3.base (by omega)
            have Hfin := Lib.hid (row_end H.out.blk (HBW.out _ HB3.out) ho4)
            refine hK.out _ _ (fun _ => HS.out _ _ hb3 hS2) ?_
            have hS3 := HS.out _ _ hb3 hS2
            have hfz := HF.out _ HB3.out
            obtain ⟨x3, cc3, hv3, _⟩ := ho4.shape
            generalize (ins (nm.data.toList, (⟨dt.data.toList, sf⟩ : Fl)) d.files).length = N3 at hv3
            subst hv3
            clear hK K ho3 hc3 hb3 ho4 hS2
            try simp only [Act.put, List.setIfInBounds_toArray, List.set_cons_zero, List.set_cons_succ]
            refine sink_one 19 rfl (by kernel_rfl) ?_
            intro K hK
            go_simp
            refine hK.out _ _ (fun _ => hS3) ?_
            clear hK K
            refine sink_one 20 rfl (by kernel_rfl) ?_
            intro K hK
            go_simp
            refine hK.out _ _ (fun _ => hS3) ?_
            clear hK K
            refine sink_one 21 rfl (by kernel_rfl) ?_
            intro K hK
            obtain ⟨hs31, _⟩ := hS3
            go_simp
            refine hK.out _ _ (fun e => absurd rfl e) ?_
            refine sink_done (by kernel_rfl) ?_ _
            refine bodyPost_end (results_none rfl _ _ _) rfl ?_
            exact ⟨rfl, _, Hfin.out⟩
          · intro K hK
            go_simp
            obtain ⟨wB, hwB⟩ : ∃ wB, wB = wA.alloc (.cells #[.string nm, .string dt, .int .i64 sf] 117 (0, 0)) := ⟨_, rfl⟩
            rw [← hwB]
            have hbB : Below wA.heap.size wA wB := by rw [hwB]; exact (Below.refl _ _).alloc (Nat.le_refl _) _
            have hzz : Z ≤ wA.heap.size := by rw [HZ.out]; exact hbA.size
            have hSB := HS.out _ _ (hbB.mono hzz) hSA
            have hbBw := hbA.trans (hbB.mono hzz)
            have OB : OwnF wB Z (.slice (some ⟨WR.heap.size, 0, none⟩) 0 0) [] := by rw [hwB]; exact World.ownsRow.alloc OA _
            have KB : Blk wB wA.heap.size 117 #[.string nm, .string dt, .int .i64 sf] := by rw [hwB]; exact Blk.alloc_new wA _ _
            refine hK.out _ _ (fun _ => hSB) ?_
            clear hK K hwB
            try simp only [Act.put, List.setIfInBounds_toArray, List.set_cons_zero, List.set_cons_succ]
            refine sink_one 8 rfl (by kernel_rfl) ?_
            intro K hK
            refine step_app rfl (.tmp 28) (.tmp 34) rfl Z _ [] rfl OB _ _ _ (d.files.take k) rfl (HsT.out _ hbBw) (by have := HL.out; simp only [List.length_nil]; omega) (by rw [HZ.out]; exact hbBw.size) ?_
            intro v1 w1 ho1 hc1
            have hb1 : Below Z wB w1 := hc1.below (by rw [HZ.out]; exact hbBw.size) (fun k hk e => by have := ((World.ownsRow.lt OB) k e).1; omega)
            have hb1w := hbBw.trans hb1
            have hS1 := HS.out _ _ hb1 hSB
            refine hK.out _ _ (fun _ => hS1) ?_
            clear hK K
            try simp only [Act.put, List.setIfInBounds_toArray, List.set_cons_zero, List.set_cons_succ]
            have HBP := Lib.hid hb1w
            have HO1 := Lib.hid (show OwnF w1 Z v1 (d.files.take k) from ho1)
            have HSB := Lib.hid (show SrcF w1 (some ⟨wA.heap.size, 0, none⟩) 1 1 [(nm.data.toList, (⟨dt.data.toList, sf⟩ : Fl))] from srcNew (KB.chg hc1 (fun e => by have e2 := Option.some.inj (show some WR.heap.size = some wA.heap.size from e); have hzz := HzX.out; omega)))
            have HZP := Lib.hid (show Z ≤ w1.heap.size from by rw [HZ.out]; exact hb1w.size)
            have hSP := hS1
            clear ho1 hc1 hb1 hb1w hbBw hbB hSB OA OB KB hSA hbA hS1
    
            refine sink_one 11 rfl (by kernel_rfl) ?_
            intro K hK
            refine step_app rfl (.tmp 35) (.tmp 37) rfl Z v1 (d.files.take k) rfl HO1.out _ 1 1 [(nm.data.toList, (⟨dt.data.toList, sf⟩ : Fl))] rfl HSB.out (by have := HL.out; simp only [List.length_singleton]; omega) HZP.out ?_
            intro v2 w2 ho2 hc2
            have hb2 : Below Z w1 w2 := hc2.below HZP.out (fun k hk e => by have := ((World.ownsRow.lt HO1.out) k e).1; omega)
            have HB2 := Lib.hid (HBP.out.trans hb2)
            have HO2 := Lib.hid ho2
            refine hK.out _ _ (fun _ => HS.out _ _ hb2 hSP) ?_
            have hS2 := HS.out _ _ hb2 hSP
            clear hK K ho2 hc2 hb2
            try simp only [Act.put, List.setIfInBounds_toArray, List.set_cons_zero, List.set_cons_succ]
    
            refine sink_one 18 rfl (by kernel_rfl) ?_
            intro K hK
            refine step_app rfl (.tmp 38) (.tmp 44) rfl Z v2 (d.files.take k ++ [(nm.data.toList, (⟨dt.data.toList, sf⟩ : Fl))]) rfl HO2.out (some ⟨b, k * 3, none⟩) (d.files.length - k) (c - k) (d.files.drop k) rfl (HsD.out _ HB2.out) (by have := HL.out; simp only [List.length_append, List.length_singleton]; omega) (by rw [HZ.out]; exact HB2.out.size) ?_
            intro v3 w3 ho3 hc3
            have hb3 : Below Z w2 w3 := hc3.below (by rw [HZ.out]; exact HB2.out.size) (fun k hk e => by have := ((World.ownsRow.lt HO2.out) k e).1; omega)
            have HB3 := Lib.hid (HB2.out.trans hb3)
            rw [HLI.out] at ho3
            have ho4 : OwnF w3 w.heap.size v3 (ins (nm.data.toList, ⟨dt.data.toList, sf⟩) d.files) := ho3.base (by omega)
            have Hfin := Lib.hid (row_end H.out.blk (HBW.out _ HB3.out) ho4)
            refine hK.out _ _ (fun _ => HS.out _ _ hb3 hS2) ?_
            have hS3 := HS.out _ _ hb3 hS2
            have hfz := HF.out _ HB3.out
            obtain ⟨x3, cc3, hv3, _⟩ := ho4.shape
            generalize (ins (nm.data.toList, (⟨dt.data.toList, sf⟩ : Fl)) d.files).length = N3 at hv3
            subst hv3
            clear hK K ho3 hc3 hb3 ho4 hS2
            try simp only [Act.put, List.setIfInBounds_toArray, List.set_cons_zero, List.set_cons_succ]
            refine sink_one 19 rfl (by kernel_rfl) ?_
            intro K hK
            go_simp
            refine hK.out _ _ (fun _ => hS3) ?_
            clear hK K
            refine sink_one 20 rfl (by kernel_rfl) ?_
            intro K hK
            go_simp
            refine hK.out _ _ (fun _ => hS3) ?_
            clear hK K
            refine sink_one 21 rfl (by kernel_rfl) ?_
            intro K hK
            obtain ⟨hs31, _⟩ := hS3
            go_simp
            refine hK.out _ _ (fun e => absurd rfl e) ?_
            refine sink_done (by kernel_rfl) ?_ _
            refine bodyPost_end (results_none rfl _ _ _) rfl ?_
            exact ⟨rfl, _, Hfin.out⟩
        · intro K hK
          go_simp
          obtain ⟨wB, hwB⟩ : ∃ wB, wB = (WR.alloc (.cells #[.string nm, .string dt, .int .i64 sf] 117 (0, 0))).drew := ⟨_, rfl⟩
          rw [← hwB]
          have hbB : Below Z WR.drew wB := by
            have q := ((Below.refl WR.heap.size WR).alloc (Nat.le_refl _) (.cells #[.string nm, .string dt, .int .i64 sf] 117 (0, 0))).drew
            rw [hwB, HZ.out]
            exact ⟨q.os, q.tape, q.output, q.size, q.block⟩
          have hSB := HS.out _ _ hbB hS0
          refine hK.out _ _ (fun _ => hSB) ?_
          have HzX := Lib.hid (show wB.heap.size = WR.heap.size + 1 from by rw [hwB]; show (World.alloc _ _).heap.size = _; simp)
          have KB : Blk wB WR.heap.size 117 #[.string nm, .string dt, .int .i64 sf] := by rw [hwB]; exact Blk.drewN (Blk.alloc_new WR _ _) 1
          clear hK K hwB
          try simp only [Act.put, List.setIfInBounds_toArray, List.set_cons_zero, List.set_cons_succ]
          refine sink_one 1 rfl (by kernel_rfl) ?_
          intro K hK
          go_simp
          obtain ⟨wA, hwA⟩ : ∃ wA, wA = wB.alloc (.cells #[] 117 (0, 0)) := ⟨_, rfl⟩
          rw [← hwA]
          have hbA : Below wB.heap.size wB wA := by rw [hwA]; exact (Below.refl _ _).alloc (Nat.le_refl _) _
          have hzz : Z ≤ wB.heap.size := by rw [HZ.out]; exact hbB.size
          have hSA := HS.out _ _ (hbA.mono hzz) hSB
          have hbAw := hbB.trans (hbA.mono hzz)
          have OA : OwnF wA Z (.slice (some ⟨wB.heap.size, 0, none⟩) 0 0) [] := by rw [hwA]; exact OwnF.base (ownF_new wB) hzz
          have KA := KB.below hbA
          refine hK.out _ _ (fun _ => hSA) ?_
          clear hK K hwA
          try simp only [Act.put, List.setIfInBounds_toArray, List.set_cons_zero, List.set_cons_succ]
          refine sink_one 8 rfl (by kernel_rfl) ?_
          intro K hK
          refine step_app rfl (.tmp 28) (.tmp 34) rfl Z _ [] rfl OA _ _ _ (d.files.take k) rfl (HsT.out _ hbAw) (by have := HL.out; simp only [List.length_nil]; omega) (by rw [HZ.out]; exact hbAw.size) ?_
          intro v1 w1 ho1 hc1
          have hb1 : Below Z wA w1 := hc1.below (by rw [HZ.out]; exact hbAw.size) (fun k hk e => by have := ((World.ownsRow.lt OA) k e).1; omega)
          have hb1w := hbAw.trans hb1
          have hS1 := HS.out _ _ hb1 hSA
          refine hK.out _ _ (fun _ => hS1) ?_
          clear hK K
          try simp only [Act.put, List.setIfInBounds_toArray, List.set_cons_zero, List.set_cons_succ]
          have HBP := Lib.hid hb1w
          have HO1 := Lib.hid (show OwnF w1 Z v1 (d.files.take k) from ho1)
          have HSB := Lib.hid (show SrcF w1 (some ⟨WR.heap.size, 0, none⟩) 1 1 [(nm.data.toList, (⟨dt.data.toList, sf⟩ : Fl))] from srcNew (KA.chg hc1 (fun e => by have e2 := Option.some.inj (show some wB.heap.size = some WR.heap.size from e); have hzz := HzX.out; omega)))
          have HZP := Lib.hid (show Z ≤ w1.heap.size from by rw [HZ.out]; exact hb1w.size)
          have hSP := hS1
          clear ho1 hc1 hb1 hb1w hbAw hbA hSA OA KA KB hSB hbB hS1
  
          refine sink_one 11 rfl (by kernel_rfl) ?_
          intro K hK
          refine step_app rfl (.tmp 35) (.tmp 37) rfl Z v1 (d.files.take k) rfl HO1.out _ 1 1 [(nm.data.toList, (⟨dt.data.toList, sf⟩ : Fl))] rfl HSB.out (by have := HL.out; simp only [List.length_singleton]; omega) HZP.out ?_
          intro v2 w2 ho2 hc2
          have hb2 : Below Z w1 w2 := hc2.below HZP.out (fun k hk e => by have := ((World.ownsRow.lt HO1.out) k e).1; omega)
          have HB2 := Lib.hid (HBP.out.trans hb2)
          have HO2 := Lib.hid ho2
          refine hK.out _ _ (fun _ => HS.out _ _ hb2 hSP) ?_
          have hS2 := HS.out _ _ hb2 hSP
          clear hK K ho2 hc2 hb2
          try simp only [Act.put, List.setIfInBounds_toArray, List.set_cons_zero, List.set_cons_succ]
  
          refine sink_one 18 rfl (by kernel_rfl) ?_
          intro K hK
          refine step_app rfl (.tmp 38) (.tmp 44) rfl Z v2 (d.files.take k ++ [(nm.data.toList, (⟨dt.data.toList, sf⟩ : Fl))]) rfl HO2.out (some ⟨b, k * 3, none⟩) (d.files.length - k) (c - k) (d.files.drop k) rfl (HsD.out _ HB2.out) (by have := HL.out; simp only [List.length_append, List.length_singleton]; omega) (by rw [HZ.out]; exact HB2.out.size) ?_
          intro v3 w3 ho3 hc3
          have hb3 : Below Z w2 w3 := hc3.below (by rw [HZ.out]; exact HB2.out.size) (fun k hk e => by have := ((World.ownsRow.lt HO2.out) k e).1; omega)
          have HB3 := Lib.hid (HB2.out.trans hb3)
          rw [HLI.out] at ho3
          have ho4 : OwnF w3 w.heap.size v3 (ins (nm.data.toList, ⟨dt.data.toList, sf⟩) d.files) := ho3.base (by omega)
          have Hfin := Lib.hid (row_end H.out.blk (HBW.out _ HB3.out) ho4)
          refine hK.out _ _ (fun _ => HS.out _ _ hb3 hS2) ?_
          have hS3 := HS.out _ _ hb3 hS2
          have hfz := HF.out _ HB3.out
          obtain ⟨x3, cc3, hv3, _⟩ := ho4.shape
          generalize (ins (nm.data.toList, (⟨dt.data.toList, sf⟩ : Fl)) d.files).length = N3 at hv3
          subst hv3
          clear hK K ho3 hc3 hb3 ho4 hS2
          try simp only [Act.put, List.setIfInBounds_toArray, List.set_cons_zero, List.set_cons_succ]
          refine sink_one 19 rfl (by kernel_rfl) ?_
          intro K hK
          go_simp
          refine hK.out _ _ (fun _ => hS3) ?_
          clear hK K
          refine sink_one 20 rfl (by kernel_rfl) ?_
          intro K hK
          go_simp
          refine hK.out _ _ (fun _ => hS3) ?_
          clear hK K
          refine sink_one 21 rfl (by kernel_rfl) ?_
          intro K hK
          obtain ⟨hs31, _⟩ := hS3
          go_simp
          refine hK.out _ _ (fun e => absurd rfl e) ?_
          refine sink_done (by kernel_rfl) ?_ _
          refine bodyPost_end (results_none rfl _ _ _) rfl ?_
          exact ⟨rfl, _, Hfin.out⟩
    · obtain rfl : k = d.files.length := by omega
      have hcl := HCL0.out
      have hb := HB1.out
      have HCL := Lib.hid (show ∀ i (hi : i < d.files.length), w.cell? ⟨b, i * 3, none⟩ = some (.string ⟨d.files[i].1.toArray⟩) ∧ w.cell? ⟨b, i * 3 + 1, none⟩ = some (.string ⟨d.files[i].2.data.toArray⟩) ∧ w.cell? ⟨b, i * 3 + 2, none⟩ = some (.int .i64 d.files[i].2.safe) from hcl)
      have HBb := Lib.hid hb
      clear hcl hb
      by_cases hce : c = d.files.length
      · subst hce
        go_wp2_with fail
        go_quiet (fail)
        go_wp2_with fail

        obtain ⟨WR, hWR⟩ : ∃ WR, WR = (wb.drewN nd).drewN nq := ⟨_, rfl⟩
        rw [← hWR]
        have HbR := Lib.hid (show Below wb.heap.size wb WR.drew by rw [hWR]; exact (below_drewN (below_drewN (Below.refl _ _) nd) nq).drew)
        have hlb : w.heap.size < wb.heap.size := by omega
        have hbr2 : br < wb.heap.size := by omega
        obtain ⟨Z, hZ⟩ : ∃ Z, Z = WR.drew.heap.size := ⟨_, rfl⟩
        have HZ := Lib.hid hZ
        have hZb : wb.heap.size ≤ Z := by rw [hZ]; exact HbR.out.size
        have hS0 : WR.drew.cell? ⟨br, 4, none⟩ = some (.slice (some ⟨b, 0, none⟩) d.files.length d.files.length) ∧ WR.drew.cell? ⟨w.heap.size, 0, none⟩ = some (.string nm) ∧ WR.drew.cell? ⟨w.heap.size, 1, none⟩ = some (.string dt) ∧ WR.drew.cell? ⟨w.heap.size, 2, none⟩ = some (.int .i64 sf) :=
          ⟨(HbR.out.cell (p := ⟨br, 4, none⟩) hbr2).trans ca, (HbR.out.cell (p := ⟨w.heap.size, 0, none⟩) hlb).trans x0, (HbR.out.cell (p := ⟨w.heap.size, 1, none⟩) hlb).trans x1, (HbR.out.cell (p := ⟨w.heap.size, 2, none⟩) hlb).trans x2⟩
        have HS := Lib.hid (show ∀ W1 W2 : World, Below Z W1 W2 → (W1.cell? ⟨br, 4, none⟩ = some (.slice (some ⟨b, 0, none⟩) d.files.length d.files.length) ∧ W1.cell? ⟨w.heap.size, 0, none⟩ = some (.string nm) ∧ W1.cell? ⟨w.heap.size, 1, none⟩ = some (.string dt) ∧ W1.cell? ⟨w.heap.size, 2, none⟩ = some (.int .i64 sf)) → (W2.cell? ⟨br, 4, none⟩ = some (.slice (some ⟨b, 0, none⟩) d.files.length d.files.length) ∧ W2.cell? ⟨w.heap.size, 0, none⟩ = some (.string nm) ∧ W2.cell? ⟨w.heap.size, 1, none⟩ = some (.string dt) ∧ W2.cell? ⟨w.heap.size, 2, none⟩ = some (.int .i64 sf)) from fun W1 W2 hb hs =>
          ⟨(hb.cell (p := ⟨br, 4, none⟩) (by show br < Z; omega)).trans hs.1, (hb.cell (p := ⟨w.heap.size, 0, none⟩) (by show w.heap.size < Z; omega)).trans hs.2.1, (hb.cell (p := ⟨w.heap.size, 1, none⟩) (by show w.heap.size < Z; omega)).trans hs.2.2.1, (hb.cell (p := ⟨w.heap.size, 2, none⟩) (by show w.heap.size < Z; omega)).trans hs.2.2.2⟩)
        have HF := Lib.hid (show ∀ W : World, Below Z WR.drew W → W.frozen? ⟨br, 4, none⟩ = false from fun W hb => (hb.frozen (p := ⟨br, 4, none⟩) (by show br < Z; omega)).trans ((HbR.out.frozen (p := ⟨br, 4, none⟩) hbr2).trans fa))
        have HBW := Lib.hid (show ∀ W : World, Below Z WR.drew W → Below w.heap.size w W from fun W hb => (HB0.out.trans (HbR.out.mono (by omega))).trans (hb.mono (by omega)))
        have HsT := Lib.hid (show ∀ W : World, Below Z WR.drew W → SrcF W (some ⟨b, 0, none⟩) d.files.length d.files.length (d.files.take d.files.length) from fun W hb => ⟨by rw [List.length_take]; omega, .inr ⟨_, rfl, fun j u hj => by
          have := cellsF_part HCL.out 0 d.files.length j u (by rw [List.drop_zero]; exact hj)
          rw [add_none] at this ⊢
          rw [Nat.zero_mul] at this
          exact ((HBW.out W hb).cell (p := ⟨b, _, none⟩) HBb.out).trans this⟩⟩)
        have HsD := Lib.hid (show ∀ W : World, Below Z WR.drew W → SrcF W (some ⟨b, 0, none⟩) 0 0 (d.files.drop d.files.length) from fun W hb => by
          have e : d.files.drop d.files.length = [] := by rw [List.drop_eq_nil_iff]; omega
          rw [e]
          exact ⟨rfl, .inr ⟨_, rfl, fun j u hj => by cases hj⟩⟩)
        have hkc : (d.files.length : Int) ≤ d.files.length := by omega
        have hkl2 : (d.files.length : Int) ≤ d.files.length := by omega
        have hlc2 : (d.files.length : Int) ≤ d.files.length := by omega
        have HL := Lib.hid (show (d.files.take d.files.length).length + (d.files.drop d.files.length).length ≤ 2000 by rw [List.length_take, List.length_drop]; omega)
        have HLI := Lib.hid (lay_ins H.out.ok.rising Hnew.out hk Hall.out (fun h => absurd h (by omega)) ⟨dt.data.toList, sf⟩)
        clear hWR hZ
        refine wp_region_sink (S := fun w' => w'.cell? ⟨br, 4, none⟩ = some (.slice (some ⟨b, 0, none⟩) d.files.length d.files.length) ∧ w'.cell? ⟨w.heap.size, 0, none⟩ = some (.string nm) ∧ w'.cell? ⟨w.heap.size, 1, none⟩ = some (.string dt) ∧ w'.cell? ⟨w.heap.size, 2, none⟩ = some (.int .i64 sf)) (n := 21) (by kernel_rfl) ?_
        refine sink_take 0 (some 27) (v := ?_) rfl rfl (by kernel_rfl) (by kernel_rfl) (by kernel_rfl) (by kernel_rfl) (by decide) (fun _ _ _ h => h) (Or.inl ⟨by rfl, ?hy0⟩) (by assumption) ?_
        case hy0 => (intro w' hS'; go_simp; (try with_reducible rfl))
        try simp only [Act.put, List.setIfInBounds_toArray, List.set_cons_zero, List.set_cons_succ]
        refine sink_take 2 (some 29) (v := ?_) rfl rfl (by kernel_rfl) (by kernel_rfl) (by kernel_rfl) (by kernel_rfl) (by decide) (fun _ _ _ h => h) (Or.inl ⟨by rfl, ?hy2⟩) (by assumption) ?_
        case hy2 => (intro w' hS'; go_simp; (try with_reducible rfl))
        try simp only [Act.put, List.setIfInBounds_toArray, List.set_cons_zero, List.set_cons_succ]
        refine sink_take 3 (some 30) (v := ?_) rfl rfl (by kernel_rfl) (by kernel_rfl) (by kernel_rfl) (by kernel_rfl) (by decide) (fun _ _ _ h => h) (Or.inl ⟨by rfl, ?hy3⟩) (by assumption) ?_
        case hy3 => (intro w' hS'; go_simp; (try with_reducible rfl))
        try simp only [Act.put, List.setIfInBounds_toArray, List.set_cons_zero, List.set_cons_succ]
        refine sink_take 4 (some 31) (v := ?_) rfl rfl (by kernel_rfl) (by kernel_rfl) (by kernel_rfl) (by kernel_rfl) (by decide) (fun _ _ _ h => h) (Or.inl ⟨by rfl, ?hy4⟩) (by assumption) ?_
        case hy4 => (intro w' hS'; go_simp; (try with_reducible rfl))
        try simp only [Act.put, List.setIfInBounds_toArray, List.set_cons_zero, List.set_cons_succ]
        refine sink_take 5 (some 32) (v := ?_) rfl rfl (by kernel_rfl) (by kernel_rfl) (by kernel_rfl) (by kernel_rfl) (by decide) (fun _ _ _ h => h) (Or.inl ⟨by rfl, ?hy5⟩) (by assumption) ?_
        case hy5 => (intro w' hS'; go_simp; (try with_reducible rfl))
        try simp only [Act.put, List.setIfInBounds_toArray, List.set_cons_zero, List.set_cons_succ]
        refine sink_take 6 (some 33) (v := ?_) rfl rfl (by kernel_rfl) (by kernel_rfl) (by kernel_rfl) (by kernel_rfl) (by decide) (fun _ _ _ h => h) (Or.inl ⟨by rfl, ?hy6⟩) (by assumption) ?_
        case hy6 => (intro w' hS'; go_simp; (try with_reducible rfl))
        try simp only [Act.put, List.setIfInBounds_toArray, List.set_cons_zero, List.set_cons_succ]
        refine sink_take 7 (some 34) (v := ?_) rfl rfl (by kernel_rfl) (by kernel_rfl) (by kernel_rfl) (by kernel_rfl) (by decide) (fun _ _ _ h => h) (Or.inl ⟨by rfl, ?hy7⟩) (by assumption) ?_
        case hy7 => (intro w' hS'; go_simp; (try with_reducible rfl))
        try simp only [Act.put, List.setIfInBounds_toArray, List.set_cons_zero, List.set_cons_succ]
        refine sink_take 9 (some 36) (v := ?_) rfl rfl (by kernel_rfl) (by kernel_rfl) (by kernel_rfl) (by kernel_rfl) (by decide) (fun _ _ _ h => h) (Or.inl ⟨by rfl, ?hy9⟩) (by assumption) ?_
        case hy9 => (intro w' hS'; go_simp; (try with_reducible rfl))
        try simp only [Act.put, List.setIfInBounds_toArray, List.set_cons_zero, List.set_cons_succ]
        refine sink_take 12 (some 39) (v := ?_) rfl rfl (by kernel_rfl) (by kernel_rfl) (by kernel_rfl) (by kernel_rfl) (by decide) (fun _ _ _ h => h) (Or.inl ⟨by rfl, ?hy12⟩) (by assumption) ?_
        case hy12 => (intro w' hS'; go_simp; (try with_reducible rfl))
        try simp only [Act.put, List.setIfInBounds_toArray, List.set_cons_zero, List.set_cons_succ]
        refine sink_take 13 (some 40) (v := ?_) rfl rfl (by kernel_rfl) (by kernel_rfl) (by kernel_rfl) (by kernel_rfl) (by decide) (fun _ _ _ h => h) (Or.inl ⟨by rfl, ?hy13⟩) (by assumption) ?_
        case hy13 => (intro w' hS'; go_simp; (try with_reducible rfl))
        try simp only [Act.put, List.setIfInBounds_toArray, List.set_cons_zero, List.set_cons_succ]
        refine sink_take 14 (some 41) (v := ?_) rfl rfl (by kernel_rfl) (by kernel_rfl) (by kernel_rfl) (by kernel_rfl) (by decide) (fun _ _ _ h => h) (Or.inl ⟨by rfl, ?hy14⟩) (by assumption) ?_
        case hy14 => (intro w' hS'; go_simp; (try with_reducible rfl))
        try simp only [Act.put, List.setIfInBounds_toArray, List.set_cons_zero, List.set_cons_succ]
        refine sink_take 15 (some 42) (v := ?_) rfl rfl (by kernel_rfl) (by kernel_rfl) (by kernel_rfl) (by kernel_rfl) (by decide) (fun _ _ _ h => h) (Or.inl ⟨by rfl, ?hy15⟩) (by assumption) ?_
        case hy15 => (intro w' hS'; go_simp; (try with_reducible rfl))
        try simp only [Act.put, List.setIfInBounds_toArray, List.set_cons_zero, List.set_cons_succ]
        refine sink_take 16 (some 43) (v := ?_) rfl rfl (by kernel_rfl) (by kernel_rfl) (by kernel_rfl) (by kernel_rfl) (by decide) (fun _ _ _ h => h) (Or.inl ⟨by rfl, ?hy16⟩) (by assumption) ?_
        case hy16 => (intro w' hS'; go_simp; (try with_reducible rfl))
        try simp only [Act.put, List.setIfInBounds_toArray, List.set_cons_zero, List.set_cons_succ]
        refine sink_take 17 (some 44) (v := ?_) rfl rfl (by kernel_rfl) (by kernel_rfl) (by kernel_rfl) (by kernel_rfl) (by decide) (fun _ _ _ h => h) (Or.inl ⟨by rfl, ?hy17⟩) (by assumption) ?_
        case hy17 => (intro w' hS'; go_simp; (try with_reducible rfl))
        try simp only [Act.put, List.setIfInBounds_toArray, List.set_cons_zero, List.set_cons_succ]
        refine sink_two 1 10 rfl rfl (by kernel_rfl) ?_ ?_
        · intro K hK
          go_simp
          obtain ⟨wA, hwA⟩ : ∃ wA, wA = (WR.alloc (.cells #[] 117 (0, 0))).drew := ⟨_, rfl⟩
          rw [← hwA]
          have hbA : Below Z WR.drew wA := by
            have q := ((Below.refl WR.heap.size WR).alloc (Nat.le_refl _) (.cells #[] 117 (0, 0))).drew
            rw [hwA, HZ.out]
            exact ⟨q.os, q.tape, q.output, q.size, q.block⟩
          have hSA := HS.out _ _ hbA hS0
          refine hK.out _ _ (fun _ => hSA) ?_
          have HzX := Lib.hid (show wA.heap.size = WR.heap.size + 1 from by rw [hwA]; show (World.alloc _ _).heap.size = _; simp)
          have OA : OwnF wA Z (.slice (some ⟨WR.heap.size, 0, none⟩) 0 0) [] := by rw [hwA, HZ.out]; exact World.ownsRow.drew (ownF_new WR)
          clear hK K hwA
          try simp only [Act.put, List.setIfInBounds_toArray, List.set_cons_zero, List.set_cons_succ]
          refine sink_two 8 10 rfl rfl (by kernel_rfl) ?_ ?_
          · intro K hK
            refine step_app rfl (.tmp 28) (.tmp 34) rfl Z _ [] rfl OA _ _ _ (d.files.take d.files.length) rfl (HsT.out _ hbA) (by have := HL.out; simp only [List.length_nil]; omega) (by rw [HZ.out]; exact hbA.size) ?_
            intro v1 w1 ho1 hc1
            have hb1 : Below Z wA w1 := hc1.below (by rw [HZ.out]; exact hbA.size) (fun k hk e => by have := ((World.ownsRow.lt OA) k e).1; omega)
            have hb1w := hbA.trans hb1
            have hS1 := HS.out _ _ hb1 hSA
            refine hK.out _ _ (fun _ => hS1) ?_
            clear hK K
            try simp only [Act.put, List.setIfInBounds_toArray, List.set_cons_zero, List.set_cons_succ]
            refine sink_one 10 rfl (by kernel_rfl) ?_
            intro K hK
            go_simp
            obtain ⟨wP, hwP⟩ : ∃ wP, wP = w1.alloc (.cells #[.string nm, .string dt, .int .i64 sf] 117 (0, 0)) := ⟨_, rfl⟩
            rw [← hwP]
            have hbP : Below w1.heap.size w1 wP := by rw [hwP]; exact (Below.refl _ _).alloc (Nat.le_refl _) _
            have hz1 : Z ≤ w1.heap.size := by rw [HZ.out]; exact hb1w.size
            have hSP := HS.out _ _ (hbP.mono hz1) hS1
            have HBP := Lib.hid (hb1w.trans (hbP.mono hz1))
            have HO1 := Lib.hid (show OwnF wP Z v1 (d.files.take d.files.length) from by rw [hwP]; exact World.ownsRow.alloc ho1 _)
            have HSB := Lib.hid (show SrcF wP (some ⟨w1.heap.size, 0, none⟩) 1 1 [(nm.data.toList, (⟨dt.data.toList, sf⟩ : Fl))] from srcNew (by rw [hwP]; exact Blk.alloc_new w1 _ _))
            have HZP := Lib.hid (show Z ≤ wP.heap.size from Nat.le_trans hz1 hbP.size)
            refine hK.out _ _ (fun _ => hSP) ?_
            clear hK K hwP hbP ho1 hc1 hb1 hb1w hS1 hSA OA
            try simp only [Act.put, List.setIfInBounds_toArray, List.set_cons_zero, List.set_cons_succ]
    
            refine sink_one 11 rfl (by kernel_rfl) ?_
            intro K hK
            refine step_app rfl (.tmp 35) (.tmp 37) rfl Z v1 (d.files.take d.files.length) rfl HO1.out _ 1 1 [(nm.data.toList, (⟨dt.data.toList, sf⟩ : Fl))] rfl HSB.out (by have := HL.out; simp only [List.length_singleton]; omega) HZP.out ?_
            intro v2 w2 ho2 hc2
            have hb2 : Below Z wP w2 := hc2.below HZP.out (fun k hk e => by have := ((World.ownsRow.lt HO1.out) k e).1; omega)
            have HB2 := Lib.hid (HBP.out.trans hb2)
            have HO2 := Lib.hid ho2
            refine hK.out _ _ (fun _ => HS.out _ _ hb2 hSP) ?_
            have hS2 := HS.out _ _ hb2 hSP
            clear hK K ho2 hc2 hb2
            try simp only [Act.put, List.setIfInBounds_toArray, List.set_cons_zero, List.set_cons_succ]
    
            refine sink_one 18 rfl (by kernel_rfl) ?_
            intro K hK
            refine step_app rfl (.tmp 38) (.tmp 44) rfl Z v2 (d.files.take d.files.length ++ [(nm.data.toList, (⟨dt.data.toList, sf⟩ : Fl))]) rfl HO2.out (some ⟨b, 0, none⟩) 0 0 (d.files.drop d.files.length) rfl (HsD.out _ HB2.out) (by have := HL.out; simp only [List.length_append, List.length_singleton]; omega) (by rw [HZ.out]; exact HB2.out.size) ?_
            intro v3 w3 ho3 hc3
            have hb3 : Below Z w2 w3 := hc3.below (by rw [HZ.out]; exact HB2.out.size) (fun k hk e => by have := ((World.ownsRow.lt HO2.out) k e).1; omega)
            have HB3 := Lib.hid (HB2.out.trans hb3)
            rw [HLI.out] at ho3
            have ho4 : OwnF w3 w.heap.size v3 (ins (nm.data.toList, ⟨dt.data.toList, sf⟩) d.files) := ho3.base (by omega)
            have Hfin := Lib.hid (row_end H.out.blk (HBW.out _ HB3.out) ho4)
            refine hK.out _ _ (fun _ => HS.out _ _ hb3 hS2) ?_
            have hS3 := HS.out _ _ hb3 hS2
            have hfz := HF.out _ HB3.out
            obtain ⟨x3, cc3, hv3, _⟩ := ho4.shape
            generalize (ins (nm.data.toList, (⟨dt.data.toList, sf⟩ : Fl)) d.files).length = N3 at hv3
            subst hv3
            clear hK K ho3 hc3 hb3 ho4 hS2
            try simp only [Act.put, List.setIfInBounds_toArray, List.set_cons_zero, List.set_cons_succ]
            refine sink_one 19 rfl (by kernel_rfl) ?_
            intro K hK
            go_simp
            refine hK.out _ _ (fun _ => hS3) ?_
            clear hK K
            refine sink_one 20 rfl (by kernel_rfl) ?_
            intro K hK
            go_simp
            refine hK.out _ _ (fun _ => hS3) ?_
            clear hK K
            refine sink_one 21 rfl (by kernel_rfl) ?_
            intro K hK
            obtain ⟨hs31, _⟩ := hS3
            go_simp
            refine hK.out _ _ (fun e => absurd rfl e) ?_
            refine sink_done (by kernel_rfl) ?_ _
            refine bodyPost_end (results_none rfl _ _ _) rfl ?_
            exact ⟨rfl, _, Hfin.out⟩
          · intro K hK
            go_simp
            obtain ⟨wB, hwB⟩ : ∃ wB, wB = wA.alloc (.cells #[.string nm, .string dt, .int .i64 sf] 117 (0, 0)) := ⟨_, rfl⟩
            rw [← hwB]
            have hbB : Below wA.heap.size wA wB := by rw [hwB]; exact (Below.refl _ _).alloc (Nat.le_refl _) _
            have hzz : Z ≤ wA.heap.size := by rw [HZ.out]; exact hbA.size
            have hSB := HS.out _ _ (hbB.mono hzz) hSA
            have hbBw := hbA.trans (hbB.mono hzz)
            have OB : OwnF wB Z (.slice (some ⟨WR.heap.size, 0, none⟩) 0 0) [] := by rw [hwB]; exact World.ownsRow.alloc OA _
            have KB : Blk wB wA.heap.size 117 #[.string nm, .string dt, .int .i64 sf] := by rw [hwB]; exact Blk.alloc_new wA _ _
            refine hK.out _ _ (fun _ => hSB) ?_
            clear hK K hwB
            try simp only [Act.put, List.setIfInBounds_toArray, List.set_cons_zero, List.set_cons_succ]
            refine sink_one 8 rfl (by kernel_rfl) ?_
            intro K hK
            refine step_app rfl (.tmp 28) (.tmp 34) rfl Z _ [] rfl OB _ _ _ (d.files.take d.files.length) rfl (HsT.out _ hbBw) (by have := HL.out; simp only [List.length_nil]; omega) (by rw [HZ.out]; exact hbBw.size) ?_
            intro v1 w1 ho1 hc1
            have hb1 : Below Z wB w1 := hc1.below (by rw [HZ.out]; exact hbBw.size) (fun k hk e => by have := ((World.ownsRow.lt OB) k e).1; omega)
            have hb1w := hbBw.trans hb1
            have hS1 := HS.out _ _ hb1 hSB
            refine hK.out _ _ (fun _ => hS1) ?_
            clear hK K
            try simp only [Act.put, List.setIfInBounds_toArray, List.set_cons_zero, List.set_cons_succ]
            have HBP := Lib.hid hb1w
            have HO1 := Lib.hid (show OwnF w1 Z v1 (d.files.take d.files.length) from ho1)
            have HSB := Lib.hid (show SrcF w1 (some ⟨wA.heap.size, 0, none⟩) 1 1 [(nm.data.toList, (⟨dt.data.toList, sf⟩ : Fl))] from srcNew (KB.chg hc1 (fun e => by have e2 := Option.some.inj (show some WR.heap.size = some wA.heap.size from e); have hzz := HzX.out; omega)))
            have HZP := Lib.hid (show Z ≤ w1.heap.size from by rw [HZ.out]; exact hb1w.size)
            have hSP := hS1
            clear ho1 hc1 hb1 hb1w hbBw hbB hSB OA OB KB hSA hbA hS1
    
            refine sink_one 11 rfl (by kernel_rfl) ?_
            intro K hK
            refine step_app rfl (.tmp 35) (.tmp 37) rfl Z v1 (d.files.take d.files.length) rfl HO1.out _ 1 1 [(nm.data.toList, (⟨dt.data.toList, sf⟩ : Fl))] rfl HSB.out (by have := HL.out; simp only [List.length_singleton]; omega) HZP.out ?_
            intro v2 w2 ho2 hc2
            have hb2 : Below Z w1 w2 := hc2.below HZP.out (fun k hk e => by have := ((World.ownsRow.lt HO1.out) k e).1; omega)
            have HB2 := Lib.hid (HBP.out.trans hb2)
            have HO2 := Lib.hid ho2
            refine hK.out _ _ (fun _ => HS.out _ _ hb2 hSP) ?_
            have hS2 := HS.out _ _ hb2 hSP
            clear hK K ho2 hc2 hb2
            try simp only [Act.put, List.setIfInBounds_toArray, List.set_cons_zero, List.set_cons_succ]
    
            refine sink_one 18 rfl (by kernel_rfl) ?_
            intro K hK
            refine step_app rfl (.tmp 38) (.tmp 44) rfl Z v2 (d.files.take d.files.length ++ [(nm.data.toList, (⟨dt.data.toList, sf⟩ : Fl))]) rfl HO2.out (some ⟨b, 0, none⟩) 0 0 (d.files.drop d.files.length) rfl (HsD.out _ HB2.out) (by have := HL.out; simp only [List.length_append, List.length_singleton]; omega) (by rw [HZ.out]; exact HB2.out.size) ?_
            intro v3 w3 ho3 hc3
            have hb3 : Below Z w2 w3 := hc3.below (by rw [HZ.out]; exact HB2.out.size) (fun k hk e => by have := ((World.ownsRow.lt HO2.out) k e).1; omega)
            have HB3 := Lib.hid (HB2.out.trans hb3)
            rw [HLI.out] at ho3
            have ho4 : OwnF w3 w.heap.size v3 (ins (nm.data.toList, ⟨dt.data.toList, sf⟩) d.files) := ho3.base (by omega)
            have Hfin := Lib.hid (row_end H.out.blk (HBW.out _ HB3.out) ho4)
            refine hK.out _ _ (fun _ => HS.out _ _ hb3 hS2) ?_
            have hS3 := HS.out _ _ hb3 hS2
            have hfz := HF.out _ HB3.out
            obtain ⟨x3, cc3, hv3, _⟩ := ho4.shape
            generalize (ins (nm.data.toList, (⟨dt.data.toList, sf⟩ : Fl)) d.files).length = N3 at hv3
            subst hv3
            clear hK K ho3 hc3 hb3 ho4 hS2
            try simp only [Act.put, List.setIfInBounds_toArray, List.set_cons_zero, List.set_cons_succ]
            refine sink_one 19 rfl (by kernel_rfl) ?_
            intro K hK
            go_simp
            refine hK.out _ _ (fun _ => hS3) ?_
            clear hK K
            refine sink_one 20 rfl (by kernel_rfl) ?_
            intro K hK
            go_simp
            refine hK.out _ _ (fun _ => hS3) ?_
            clear hK K
            refine sink_one 21 rfl (by kernel_rfl) ?_
            intro K hK
            obtain ⟨hs31, _⟩ := hS3
            go_simp
            refine hK.out _ _ (fun e => absurd rfl e) ?_
            refine sink_done (by kernel_rfl) ?_ _
            refine bodyPost_end (results_none rfl _ _ _) rfl ?_
            exact ⟨rfl, _, Hfin.out⟩
        · intro K hK
          go_simp
          obtain ⟨wB, hwB⟩ : ∃ wB, wB = (WR.alloc (.cells #[.string nm, .string dt, .int .i64 sf] 117 (0, 0))).drew := ⟨_, rfl⟩
          rw [← hwB]
          have hbB : Below Z WR.drew wB := by
            have q := ((Below.refl WR.heap.size WR).alloc (Nat.le_refl _) (.cells #[.string nm, .string dt, .int .i64 sf] 117 (0, 0))).drew
            rw [hwB, HZ.out]
            exact ⟨q.os, q.tape, q.output, q.size, q.block⟩
          have hSB := HS.out _ _ hbB hS0
          refine hK.out _ _ (fun _ => hSB) ?_
          have HzX := Lib.hid (show wB.heap.size = WR.heap.size + 1 from by rw [hwB]; show (World.alloc _ _).heap.size = _; simp)
          have KB : Blk wB WR.heap.size 117 #[.string nm, .string dt, .int .i64 sf] := by rw [hwB]; exact Blk.drewN (Blk.alloc_new WR _ _) 1
          clear hK K hwB
          try simp only [Act.put, List.setIfInBounds_toArray, List.set_cons_zero, List.set_cons_succ]
          refine sink_one 1 rfl (by kernel_rfl) ?_
          intro K hK
          go_simp
          obtain ⟨wA, hwA⟩ : ∃ wA, wA = wB.alloc (.cells #[] 117 (0, 0)) := ⟨_, rfl⟩
          rw [← hwA]
          have hbA : Below wB.heap.size wB wA := by rw [hwA]; exact (Below.refl _ _).alloc (Nat.le_refl _) _
          have hzz : Z ≤ wB.heap.size := by rw [HZ.out]; exact hbB.size
          have hSA := HS.out _ _ (hbA.mono hzz) hSB
          have hbAw := hbB.trans (hbA.mono hzz)
          have OA : OwnF wA Z (.slice (some ⟨wB.heap.size, 0, none⟩) 0 0) [] := by rw [hwA]; exact OwnF.base (ownF_new wB) hzz
          have KA := KB.below hbA
          refine hK.out _ _ (fun _ => hSA) ?_
          clear hK K hwA
          try simp only [Act.put, List.setIfInBounds_toArray, List.set_cons_zero, List.set_cons_succ]
          refine sink_one 8 rfl (by kernel_rfl) ?_
          intro K hK
          refine step_app rfl (.tmp 28) (.tmp 34) rfl Z _ [] rfl OA _ _ _ (d.files.take d.files.length) rfl (HsT.out _ hbAw) (by have := HL.out; simp only [List.length_nil]; omega) (by rw [HZ.out]; exact hbAw.size) ?_
          intro v1 w1 ho1 hc1
          have hb1 : Below Z wA w1 := hc1.below (by rw [HZ.out]; exact hbAw.size) (fun k hk e => by have := ((World.ownsRow.lt OA) k e).1; omega)
          have hb1w := hbAw.trans hb1
          have hS1 := HS.out _ _ hb1 hSA
          refine hK.out _ _ (fun _ => hS1) ?_
          clear hK K
          try simp only [Act.put, List.setIfInBounds_toArray, List.set_cons_zero, List.set_cons_succ]
          have HBP := Lib.hid hb1w
          have HO1 := Lib.hid (show OwnF w1 Z v1 (d.files.take d.files.length) from ho1)
          have HSB := Lib.hid (show SrcF w1 (some ⟨WR.heap.size, 0, none⟩) 1 1 [(nm.data.toList, (⟨dt.data.toList, sf⟩ : Fl))] from srcNew (KA.chg hc1 (fun e => by have e2 := Option.some.inj (show some wB.heap.size = some WR.heap.size from e); have hzz := HzX.out; omega)))
          have HZP := Lib.hid (show Z ≤ w1.heap.size from by rw [HZ.out]; exact hb1w.size)
          have hSP := hS1
          clear ho1 hc1 hb1 hb1w hbAw hbA hSA OA KA KB hSB hbB hS1
  
          refine sink_one 11 rfl (by kernel_rfl) ?_
          intro K hK
          refine step_app rfl (.tmp 35) (.tmp 37) rfl Z v1 (d.files.take d.files.length) rfl HO1.out _ 1 1 [(nm.data.toList, (⟨dt.data.toList, sf⟩ : Fl))] rfl HSB.out (by have := HL.out; simp only [List.length_singleton]; omega) HZP.out ?_
          intro v2 w2 ho2 hc2
          have hb2 : Below Z w1 w2 := hc2.below HZP.out (fun k hk e => by have := ((World.ownsRow.lt HO1.out) k e).1; omega)
          have HB2 := Lib.hid (HBP.out.trans hb2)
          have HO2 := Lib.hid ho2
          refine hK.out _ _ (fun _ => HS.out _ _ hb2 hSP) ?_
          have hS2 := HS.out _ _ hb2 hSP
          clear hK K ho2 hc2 hb2
          try simp only [Act.put, List.setIfInBounds_toArray, List.set_cons_zero, List.set_cons_succ]
  
          refine sink_one 18 rfl (by kernel_rfl) ?_
          intro K hK
          refine step_app rfl (.tmp 38) (.tmp 44) rfl Z v2 (d.files.take d.files.length ++ [(nm.data.toList, (⟨dt.data.toList, sf⟩ : Fl))]) rfl HO2.out (some ⟨b, 0, none⟩) 0 0 (d.files.drop d.files.length) rfl (HsD.out _ HB2.out) (by have := HL.out; simp only [List.length_append, List.length_singleton]; omega) (by rw [HZ.out]; exact HB2.out.size) ?_
          intro v3 w3 ho3 hc3
          have hb3 : Below Z w2 w3 := hc3.below (by rw [HZ.out]; exact HB2.out.size) (fun k hk e => by have := ((World.ownsRow.lt HO2.out) k e).1; omega)
          have HB3 := Lib.hid (HB2.out.trans hb3)
          rw [HLI.out] at ho3
          have ho4 : OwnF w3 w.heap.size v3 (ins (nm.data.toList, ⟨dt.data.toList, sf⟩) d.files) := ho3.base (by omega)
          have Hfin := Lib.hid (row_end H.out.blk (HBW.out _ HB3.out) ho4)
          refine hK.out _ _ (fun _ => HS.out _ _ hb3 hS2) ?_
          have hS3 := HS.out _ _ hb3 hS2
          have hfz := HF.out _ HB3.out
          obtain ⟨x3, cc3, hv3, _⟩ := ho4.shape
          generalize (ins (nm.data.toList, (⟨dt.data.toList, sf⟩ : Fl)) d.files).length = N3 at hv3
          subst hv3
          clear hK K ho3 hc3 hb3 ho4 hS2
          try simp only [Act.put, List.setIfInBounds_toArray, List.set_cons_zero, List.set_cons_succ]
          refine sink_one 19 rfl (by kernel_rfl) ?_
          intro K hK
          go_simp
          refine hK.out _ _ (fun _ => hS3) ?_
          clear hK K
          refine sink_one 20 rfl (by kernel_rfl) ?_
          intro K hK
          go_simp
          refine hK.out _ _ (fun _ => hS3) ?_
          clear hK K
          refine sink_one 21 rfl (by kernel_rfl) ?_
          intro K hK
          obtain ⟨hs31, _⟩ := hS3
          go_simp
          refine hK.out _ _ (fun e => absurd rfl e) ?_
          refine sink_done (by kernel_rfl) ?_ _
          refine bodyPost_end (results_none rfl _ _ _) rfl ?_
          exact ⟨rfl, _, Hfin.out⟩
      · skip
        go_wp2_with fail
        go_quiet (fail)
        go_wp2_with fail

        obtain ⟨WR, hWR⟩ : ∃ WR, WR = (wb.drewN nd).drewN nq := ⟨_, rfl⟩
        rw [← hWR]
        have HbR := Lib.hid (show Below wb.heap.size wb WR.drew by rw [hWR]; exact (below_drewN (below_drewN (Below.refl _ _) nd) nq).drew)
        have hlb : w.heap.size < wb.heap.size := by omega
        have hbr2 : br < wb.heap.size := by omega
        obtain ⟨Z, hZ⟩ : ∃ Z, Z = WR.drew.heap.size := ⟨_, rfl⟩
        have HZ := Lib.hid hZ
        have hZb : wb.heap.size ≤ Z := by rw [hZ]; exact HbR.out.size
        have hS0 : WR.drew.cell? ⟨br, 4, none⟩ = some (.slice (some ⟨b, 0, none⟩) d.files.length c) ∧ WR.drew.cell? ⟨w.heap.size, 0, none⟩ = some (.string nm) ∧ WR.drew.cell? ⟨w.heap.size, 1, none⟩ = some (.string dt) ∧ WR.drew.cell? ⟨w.heap.size, 2, none⟩ = some (.int .i64 sf) :=
          ⟨(HbR.out.cell (p := ⟨br, 4, none⟩) hbr2).trans ca, (HbR.out.cell (p := ⟨w.heap.size, 0, none⟩) hlb).trans x0, (HbR.out.cell (p := ⟨w.heap.size, 1, none⟩) hlb).trans x1, (HbR.out.cell (p := ⟨w.heap.size, 2, none⟩) hlb).trans x2⟩
        have HS := Lib.hid (show ∀ W1 W2 : World, Below Z W1 W2 → (W1.cell? ⟨br, 4, none⟩ = some (.slice (some ⟨b, 0, none⟩) d.files.length c) ∧ W1.cell? ⟨w.heap.size, 0, none⟩ = some (.string nm) ∧ W1.cell? ⟨w.heap.size, 1, none⟩ = some (.string dt) ∧ W1.cell? ⟨w.heap.size, 2, none⟩ = some (.int .i64 sf)) → (W2.cell? ⟨br, 4, none⟩ = some (.slice (some ⟨b, 0, none⟩) d.files.length c) ∧ W2.cell? ⟨w.heap.size, 0, none⟩ = some (.string nm) ∧ W2.cell? ⟨w.heap.size, 1, none⟩ = some (.string dt) ∧ W2.cell? ⟨w.heap.size, 2, none⟩ = some (.int .i64 sf)) from fun W1 W2 hb hs =>
          ⟨(hb.cell (p := ⟨br, 4, none⟩) (by show br < Z; omega)).trans hs.1, (hb.cell (p := ⟨w.heap.size, 0, none⟩) (by show w.heap.size < Z; omega)).trans hs.2.1, (hb.cell (p := ⟨w.heap.size, 1, none⟩) (by show w.heap.size < Z; omega)).trans hs.2.2.1, (hb.cell (p := ⟨w.heap.size, 2, none⟩) (by show w.heap.size < Z; omega)).trans hs.2.2.2⟩)
        have HF := Lib.hid (show ∀ W : World, Below Z WR.drew W → W.frozen? ⟨br, 4, none⟩ = false from fun W hb => (hb.frozen (p := ⟨br, 4, none⟩) (by show br < Z; omega)).trans ((HbR.out.frozen (p := ⟨br, 4, none⟩) hbr2).trans fa))
        have HBW := Lib.hid (show ∀ W : World, Below Z WR.drew W → Below w.heap.size w W from fun W hb => (HB0.out.trans (HbR.out.mono (by omega))).trans (hb.mono (by omega)))
        have HsT := Lib.hid (show ∀ W : World, Below Z WR.drew W → SrcF W (some ⟨b, 0, none⟩) d.files.length c (d.files.take d.files.length) from fun W hb => ⟨by rw [List.length_take]; omega, .inr ⟨_, rfl, fun j u hj => by
          have := cellsF_part HCL.out 0 d.files.length j u (by rw [List.drop_zero]; exact hj)
          rw [add_none] at this ⊢
          rw [Nat.zero_mul] at this
          exact ((HBW.out W hb).cell (p := ⟨b, _, none⟩) HBb.out).trans this⟩⟩)
        have HsD := Lib.hid (show ∀ W : World, Below Z WR.drew W → SrcF W (some ⟨b, d.files.length * 3, none⟩) 0 (c - d.files.length) (d.files.drop d.files.length) from fun W hb => ⟨(List.length_drop).trans (by omega), .inr ⟨_, rfl, fun j u hj => by
          have := cellsF_part HCL.out d.files.length (d.files.length - d.files.length) j u (by rw [List.take_of_length_le (by rw [List.length_drop]; omega)]; exact hj)
          rw [add_none] at this ⊢
          exact ((HBW.out W hb).cell (p := ⟨b, _, none⟩) HBb.out).trans this⟩⟩)
        have hkne : ¬ (c = d.files.length) := by omega
        have hkc : (d.files.length : Int) ≤ c := by omega
        have hkl2 : (d.files.length : Int) ≤ d.files.length := by omega
        have hlc2 : (d.files.length : Int) ≤ c := by omega
        have HL := Lib.hid (show (d.files.take d.files.length).length + (d.files.drop d.files.length).length ≤ 2000 by rw [List.length_take, List.length_drop]; omega)
        have HLI := Lib.hid (lay_ins H.out.ok.rising Hnew.out hk Hall.out (fun h => absurd h (by omega)) ⟨dt.data.toList, sf⟩)
        clear hWR hZ
        refine wp_region_sink (S := fun w' => w'.cell? ⟨br, 4, none⟩ = some (.slice (some ⟨b, 0, none⟩) d.files.length c) ∧ w'.cell? ⟨w.heap.size, 0, none⟩ = some (.string nm) ∧ w'.cell? ⟨w.heap.size, 1, none⟩ = some (.string dt) ∧ w'.cell? ⟨w.heap.size, 2, none⟩ = some (.int .i64 sf)) (n := 21) (by kernel_rfl) ?_
        refine sink_take 0 (some 27) (v := ?_) rfl rfl (by kernel_rfl) (by kernel_rfl) (by kernel_rfl) (by kernel_rfl) (by decide) (fun _ _ _ h => h) (Or.inl ⟨by rfl, ?hy0⟩) (by assumption) ?_
        case hy0 => (intro w' hS'; go_simp; (try with_reducible rfl))
        try simp only [Act.put, List.setIfInBounds_toArray, List.set_cons_zero, List.set_cons_succ]
        refine sink_take 2 (some 29) (v := ?_) rfl rfl (by kernel_rfl) (by kernel_rfl) (by kernel_rfl) (by kernel_rfl) (by decide) (fun _ _ _ h => h) (Or.inl ⟨by rfl, ?hy2⟩) (by assumption) ?_
        case hy2 => (intro w' hS'; go_simp; (try with_reducible rfl))
        try simp only [Act.put, List.setIfInBounds_toArray, List.set_cons_zero, List.set_cons_succ]
        refine sink_take 3 (some 30) (v := ?_) rfl rfl (by kernel_rfl) (by kernel_rfl) (by kernel_rfl) (by kernel_rfl) (by decide) (fun _ _ _ h => h) (Or.inl ⟨by rfl, ?hy3⟩) (by assumption) ?_
        case hy3 => (intro w' hS'; go_simp; (try with_reducible rfl))
        try simp only [Act.put, List.setIfInBounds_toArray, List.set_cons_zero, List.set_cons_succ]
        refine sink_take 4 (some 31) (v := ?_) rfl rfl (by kernel_rfl) (by kernel_rfl) (by kernel_rfl) (by kernel_rfl) (by decide) (fun _ _ _ h => h) (Or.inl ⟨by rfl, ?hy4⟩) (by assumption) ?_
        case hy4 => (intro w' hS'; go_simp; (try with_reducible rfl))
        try simp only [Act.put, List.setIfInBounds_toArray, List.set_cons_zero, List.set_cons_succ]
        refine sink_take 5 (some 32) (v := ?_) rfl rfl (by kernel_rfl) (by kernel_rfl) (by kernel_rfl) (by kernel_rfl) (by decide) (fun _ _ _ h => h) (Or.inl ⟨by rfl, ?hy5⟩) (by assumption) ?_
        case hy5 => (intro w' hS'; go_simp; (try with_reducible rfl))
        try simp only [Act.put, List.setIfInBounds_toArray, List.set_cons_zero, List.set_cons_succ]
        refine sink_take 6 (some 33) (v := ?_) rfl rfl (by kernel_rfl) (by kernel_rfl) (by kernel_rfl) (by kernel_rfl) (by decide) (fun _ _ _ h => h) (Or.inl ⟨by rfl, ?hy6⟩) (by assumption) ?_
        case hy6 => (intro w' hS'; go_simp; (try with_reducible rfl))
        try simp only [Act.put, List.setIfInBounds_toArray, List.set_cons_zero, List.set_cons_succ]
        refine sink_take 7 (some 34) (v := ?_) rfl rfl (by kernel_rfl) (by kernel_rfl) (by kernel_rfl) (by kernel_rfl) (by decide) (fun _ _ _ h => h) (Or.inl ⟨by rfl, ?hy7⟩) (by assumption) ?_
        case hy7 => (intro w' hS'; go_simp; (try with_reducible rfl))
        try simp only [Act.put, List.setIfInBounds_toArray, List.set_cons_zero, List.set_cons_succ]
        refine sink_take 9 (some 36) (v := ?_) rfl rfl (by kernel_rfl) (by kernel_rfl) (by kernel_rfl) (by kernel_rfl) (by decide) (fun _ _ _ h => h) (Or.inl ⟨by rfl, ?hy9⟩) (by assumption) ?_
        case hy9 => (intro w' hS'; go_simp; (try with_reducible rfl))
        try simp only [Act.put, List.setIfInBounds_toArray, List.set_cons_zero, List.set_cons_succ]
        refine sink_take 12 (some 39) (v := ?_) rfl rfl (by kernel_rfl) (by kernel_rfl) (by kernel_rfl) (by kernel_rfl) (by decide) (fun _ _ _ h => h) (Or.inl ⟨by rfl, ?hy12⟩) (by assumption) ?_
        case hy12 => (intro w' hS'; go_simp; (try with_reducible rfl))
        try simp only [Act.put, List.setIfInBounds_toArray, List.set_cons_zero, List.set_cons_succ]
        refine sink_take 13 (some 40) (v := ?_) rfl rfl (by kernel_rfl) (by kernel_rfl) (by kernel_rfl) (by kernel_rfl) (by decide) (fun _ _ _ h => h) (Or.inl ⟨by rfl, ?hy13⟩) (by assumption) ?_
        case hy13 => (intro w' hS'; go_simp; (try with_reducible rfl))
        try simp only [Act.put, List.setIfInBounds_toArray, List.set_cons_zero, List.set_cons_succ]
        refine sink_take 14 (some 41) (v := ?_) rfl rfl (by kernel_rfl) (by kernel_rfl) (by kernel_rfl) (by kernel_rfl) (by decide) (fun _ _ _ h => h) (Or.inl ⟨by rfl, ?hy14⟩) (by assumption) ?_
        case hy14 => (intro w' hS'; go_simp; (try with_reducible rfl))
        try simp only [Act.put, List.setIfInBounds_toArray, List.set_cons_zero, List.set_cons_succ]
        refine sink_take 15 (some 42) (v := ?_) rfl rfl (by kernel_rfl) (by kernel_rfl) (by kernel_rfl) (by kernel_rfl) (by decide) (fun _ _ _ h => h) (Or.inl ⟨by rfl, ?hy15⟩) (by assumption) ?_
        case hy15 => (intro w' hS'; go_simp; (try with_reducible rfl))
        try simp only [Act.put, List.setIfInBounds_toArray, List.set_cons_zero, List.set_cons_succ]
        refine sink_take 16 (some 43) (v := ?_) rfl rfl (by kernel_rfl) (by kernel_rfl) (by kernel_rfl) (by kernel_rfl) (by decide) (fun _ _ _ h => h) (Or.inl ⟨by rfl, ?hy16⟩) (by assumption) ?_
        case hy16 => (intro w' hS'; go_simp; (try with_reducible rfl))
        try simp only [Act.put, List.setIfInBounds_toArray, List.set_cons_zero, List.set_cons_succ]
        refine sink_take 17 (some 44) (v := ?_) rfl rfl (by kernel_rfl) (by kernel_rfl) (by kernel_rfl) (by kernel_rfl) (by decide) (fun _ _ _ h => h) (Or.inl ⟨by rfl, ?hy17⟩) (by assumption) ?_
        case hy17 => (intro w' hS'; go_simp; (try with_reducible rfl))
        try simp only [Act.put, List.setIfInBounds_toArray, List.set_cons_zero, List.set_cons_succ]
        refine sink_two 1 10 rfl rfl (by kernel_rfl) ?_ ?_
        · intro K hK
          go_simp
          obtain ⟨wA, hwA⟩ : ∃ wA, wA = (WR.alloc (.cells #[] 117 (0, 0))).drew := ⟨_, rfl⟩
          rw [← hwA]
          have hbA : Below Z WR.drew wA := by
            have q := ((Below.refl WR.heap.size WR).alloc (Nat.le_refl _) (.cells #[] 117 (0, 0))).drew
            rw [hwA, HZ.out]
            exact ⟨q.os, q.tape, q.output, q.size, q.block⟩
          have hSA := HS.out _ _ hbA hS0
          refine hK.out _ _ (fun _ => hSA) ?_
          have HzX := Lib.hid (show wA.heap.size = WR.heap.size + 1 from by rw [hwA]; show (World.alloc _ _).heap.size = _; simp)
          have OA : OwnF wA Z (.slice (some ⟨WR.heap.size, 0, none⟩) 0 0) [] := by rw [hwA, HZ.out]; exact World.ownsRow.drew (ownF_new WR)
          clear hK K hwA
          try simp only [Act.put, List.setIfInBounds_toArray, List.set_cons_zero, List.set_cons_succ]
          refine sink_two 8 10 rfl rfl (by kernel_rfl) ?_ ?_
          · intro K hK
            refine step_app rfl (.tmp 28) (.tmp 34) rfl Z _ [] rfl OA _ _ _ (d.files.take d.files.length) rfl (HsT.out _ hbA) (by have := HL.out; simp only [List.length_nil]; omega) (by rw [HZ.out]; exact hbA.size) ?_
            intro v1 w1 ho1 hc1
            have hb1 : Below Z wA w1 := hc1.below (by rw [HZ.out]; exact hbA.size) (fun k hk e => by have := ((World.ownsRow.lt OA) k e).1; omega)
            have hb1w := hbA.trans hb1
            have hS1 := HS.out _ _ hb1 hSA
            refine hK.out _ _ (fun _ => hS1) ?_
            clear hK K
            try simp only [Act.put, List.setIfInBounds_toArray, List.set_cons_zero, List.set_cons_succ]
            refine sink_one 10 rfl (by kernel_rfl) ?_
            intro K hK
            go_simp
            obtain ⟨wP, hwP⟩ : ∃ wP, wP = w1.alloc (.cells #[.string nm, .string dt, .int .i64 sf] 117 (0, 0)) := ⟨_, rfl⟩
            rw [← hwP]
            have hbP : Below w1.heap.size w1 wP := by rw [hwP]; exact (Below.refl _ _).alloc (Nat.le_refl _) _
            have hz1 : Z ≤ w1.heap.size := by rw [HZ.out]; exact hb1w.size
            have hSP := HS.out _ _ (hbP.mono hz1) hS1
            have HBP := Lib.hid (hb1w.trans (hbP.mono hz1))
            have HO1 := Lib.hid (show OwnF wP Z v1 (d.files.take d.files.length) from by rw [hwP]; exact World.ownsRow.alloc ho1 _)
            have HSB := Lib.hid (show SrcF wP (some ⟨w1.heap.size, 0, none⟩) 1 1 [(nm.data.toList, (⟨dt.data.toList, sf⟩ : Fl))] from srcNew (by rw [hwP]; exact Blk.alloc_new w1 _ _))
            have HZP := Lib.hid (show Z ≤ wP.heap.size from Nat.le_trans hz1 hbP.size)
            refine hK.out _ _ (fun _ => hSP) ?_
            clear hK K hwP hbP ho1 hc1 hb1 hb1w hS1 hSA OA
            try simp only [Act.put, List.setIfInBounds_toArray, List.set_cons_zero, List.set_cons_succ]
    
            refine sink_one 11 rfl (by kernel_rfl) ?_
            intro K hK
            refine step_app rfl (.tmp 35) (.tmp 37) rfl Z v1 (d.files.take d.files.length) rfl HO1.out _ 1 1 [(nm.data.toList, (⟨dt.data.toList, sf⟩ : Fl))] rfl HSB.out (by have := HL.out; simp only [List.length_singleton]; omega) HZP.out ?_
            intro v2 w2 ho2 hc2
            have hb2 : Below Z wP w2 := hc2.below HZP.out (fun k hk e => by have := ((World.ownsRow.lt HO1.out) k e).1; omega)
            have HB2 := Lib.hid (HBP.out.trans hb2)
            have HO2 := Lib.hid ho2
            refine hK.out _ _ (fun _ => HS.out _ _ hb2 hSP) ?_
            have hS2 := HS.out _ _ hb2 hSP
            clear hK K ho2 hc2 hb2
            try simp only [Act.put, List.setIfInBounds_toArray, List.set_cons_zero, List.set_cons_succ]
    
            refine sink_one 18 rfl (by kernel_rfl) ?_
            intro K hK
            refine step_app rfl (.tmp 38) (.tmp 44) rfl Z v2 (d.files.take d.files.length ++ [(nm.data.toList, (⟨dt.data.toList, sf⟩ : Fl))]) rfl HO2.out (some ⟨b, d.files.length * 3, none⟩) 0 (c - d.files.length) (d.files.drop d.files.length) rfl (HsD.out _ HB2.out) (by have := HL.out; simp only [List.length_append, List.length_singleton]; omega) (by rw [HZ.out]; exact HB2.out.size) ?_
            intro v3 w3 ho3 hc3
            have hb3 : Below Z w2 w3 := hc3.below (by rw [HZ.out]; exact HB2.out.size) (fun k hk e => by have := ((World.ownsRow.lt HO2.out) k e).1; omega)
            have HB3 := Lib.hid (HB2.out.trans hb3)
            rw [HLI.out] at ho3
            have ho4 : OwnF w3 w.heap.size v3 (ins (nm.data.toList, ⟨dt.data.toList, sf⟩) d.files) := ho3.base (by omega)
            have Hfin := Lib.hid (row_end H.out.blk (HBW.out _ HB3.out) ho4)
            refine hK.out _ _ (fun _ => HS.out _ _ hb3 hS2) ?_
            have hS3 := HS.out _ _ hb3 hS2
            have hfz := HF.out _ HB3.out
            obtain ⟨x3, cc3, hv3, _⟩ := ho4.shape
            generalize (ins (nm.data.toList, (⟨dt.data.toList, sf⟩ : Fl)) d.files).length = N3 at hv3
            subst hv3
            clear hK K ho3 hc3 hb3 ho4 hS2
            try simp only [Act.put, List.setIfInBounds_toArray, List.set_cons_zero, List.set_cons_succ]
            refine sink_one 19 rfl (by kernel_rfl) ?_
            intro K hK
            go_simp
            refine hK.out _ _ (fun _ => hS3) ?_
            clear hK K
            refine sink_one 20 rfl (by kernel_rfl) ?_
            intro K hK
            go_simp
            refine hK.out _ _ (fun _ => hS3) ?_
            clear hK K
            refine sink_one 21 rfl (by kernel_rfl) ?_
            intro K hK
            obtain ⟨hs31, _⟩ := hS3
            go_simp
            refine hK.out _ _ (fun e => absurd rfl e) ?_
            refine sink_done (by kernel_rfl) ?_ _
            refine bodyPost_end (results_none rfl _ _ _) rfl ?_
            exact ⟨rfl, _, Hfin.out⟩
          · intro K hK
            go_simp
            obtain ⟨wB, hwB⟩ : ∃ wB, wB = wA.alloc (.cells #[.string nm, .string dt, .int .i64 sf] 117 (0, 0)) := ⟨_, rfl⟩
            rw [← hwB]
            have hbB : Below wA.heap.size wA wB := by rw [hwB]; exact (Below.refl _ _).alloc (Nat.le_refl _) _
            have hzz : Z ≤ wA.heap.size := by rw [HZ.out]; exact hbA.size
            have hSB := HS.out _ _ (hbB.mono hzz) hSA
            have hbBw := hbA.trans (hbB.mono hzz)
            have OB : OwnF wB Z (.slice (some ⟨WR.heap.size, 0, none⟩) 0 0) [] := by rw [hwB]; exact World.ownsRow.alloc OA _
            have KB : Blk wB wA.heap.size 117 #[.string nm, .string dt, .int .i64 sf] := by rw [hwB]; exact Blk.alloc_new wA _ _
            refine hK.out _ _ (fun _ => hSB) ?_
            clear hK K hwB
            try simp only [Act.put, List.setIfInBounds_toArray, List.set_cons_zero, List.set_cons_succ]
            refine sink_one 8 rfl (by kernel_rfl) ?_
            intro K hK
            refine step_app rfl (.tmp 28) (.tmp 34) rfl Z _ [] rfl OB _ _ _ (d.files.take d.files.length) rfl (HsT.out _ hbBw) (by have := HL.out; simp only [List.length_nil]; omega) (by rw [HZ.out]; exact hbBw.size) ?_
            intro v1 w1 ho1 hc1
            have hb1 : Below Z wB w1 := hc1.below (by rw [HZ.out]; exact hbBw.size) (fun k hk e => by have := ((World.ownsRow.lt OB) k e).1; omega)
            have hb1w := hbBw.trans hb1
            have hS1 := HS.out _ _ hb1 hSB
            refine hK.out _ _ (fun _ => hS1) ?_
            clear hK K
            try simp only [Act.put, List.setIfInBounds_toArray, List.set_cons_zero, List.set_cons_succ]
            have HBP := Lib.hid hb1w
            have HO1 := Lib.hid (show OwnF w1 Z v1 (d.files.take d.files.length) from ho1)
            have HSB := Lib.hid (show SrcF w1 (some ⟨wA.heap.size, 0, none⟩) 1 1 [(nm.data.toList, (⟨dt.data.toList, sf⟩ : Fl))] from srcNew (KB.chg hc1 (fun e => by have e2 := Option.some.inj (show some WR.heap.size = some wA.heap.size from e); have hzz := HzX.out; omega)))
            have HZP := Lib.hid (show Z ≤ w1.heap.size from by rw [HZ.out]; exact hb1w.size)
            have hSP := hS1
            clear ho1 hc1 hb1 hb1w hbBw hbB hSB OA OB KB hSA hbA hS1
    
            refine sink_one 11 rfl (by kernel_rfl) ?_
            intro K hK
            refine step_app rfl (.tmp 35) (.tmp 37) rfl Z v1 (d.files.take d.files.length) rfl HO1.out _ 1 1 [(nm.data.toList, (⟨dt.data.toList, sf⟩ : Fl))] rfl HSB.out (by have := HL.out; simp only [List.length_singleton]; omega) HZP.out ?_
            intro v2 w2 ho2 hc2
            have hb2 : Below Z w1 w2 := hc2.below HZP.out (fun k hk e => by have := ((World.ownsRow.lt HO1.out) k e).1; omega)
            have HB2 := Lib.hid (HBP.out.trans hb2)
            have HO2 := Lib.hid ho2
            refine hK.out _ _ (fun _ => HS.out _ _ hb2 hSP) ?_
            have hS2 := HS.out _ _ hb2 hSP
            clear hK K ho2 hc2 hb2
            try simp only [Act.put, List.setIfInBounds_toArray, List.set_cons_zero, List.set_cons_succ]
    
            refine sink_one 18 rfl (by kernel_rfl) ?_
            intro K hK
            refine step_app rfl (.tmp 38) (.tmp 44) rfl Z v2 (d.files.take d.files.length ++ [(nm.data.toList, (⟨dt.data.toList, sf⟩ : Fl))]) rfl HO2.out (some ⟨b, d.files.length * 3, none⟩) 0 (c - d.files.length) (d.files.drop d.files.length) rfl (HsD.out _ HB2.out) (by have := HL.out; simp only [List.length_append, List.length_singleton]; omega) (by rw [HZ.out]; exact HB2.out.size) ?_
            intro v3 w3 ho3 hc3
            have hb3 : Below Z w2 w3 := hc3.below (by rw [HZ.out]; exact HB2.out.size) (fun k hk e => by have := ((World.ownsRow.lt HO2.out) k e).1; omega)
            have HB3 := Lib.hid (HB2.out.trans hb3)
            rw [HLI.out] at ho3
            have ho4 : OwnF w3 w.heap.size v3 (ins (nm.data.toList, ⟨dt.data.toList, sf⟩) d.files) := ho3.base (by omega)
            have Hfin := Lib.hid (row_end H.out.blk (HBW.out _ HB3.out) ho4)
            refine hK.out _ _ (fun _ => HS.out _ _ hb3 hS2) ?_
            have hS3 := HS.out _ _ hb3 hS2
            have hfz := HF.out _ HB3.out
            obtain ⟨x3, cc3, hv3, _⟩ := ho4.shape
            generalize (ins (nm.data.toList, (⟨dt.data.toList, sf⟩ : Fl)) d.files).length = N3 at hv3
            subst hv3
            clear hK K ho3 hc3 hb3 ho4 hS2
            try simp only [Act.put, List.setIfInBounds_toArray, List.set_cons_zero, List.set_cons_succ]
            refine sink_one 19 rfl (by kernel_rfl) ?_
            intro K hK
            go_simp
            refine hK.out _ _ (fun _ => hS3) ?_
            clear hK K
            refine sink_one 20 rfl (by kernel_rfl) ?_
            intro K hK
            go_simp
            refine hK.out _ _ (fun _ => hS3) ?_
            clear hK K
            refine sink_one 21 rfl (by kernel_rfl) ?_
            intro K hK
            obtain ⟨hs31, _⟩ := hS3
            go_simp
            refine hK.out _ _ (fun e => absurd rfl e) ?_
            refine sink_done (by kernel_rfl) ?_ _
            refine bodyPost_end (results_none rfl _ _ _) rfl ?_
            exact ⟨rfl, _, Hfin.out⟩
        · intro K hK
          go_simp
          obtain ⟨wB, hwB⟩ : ∃ wB, wB = (WR.alloc (.cells #[.string nm, .string dt, .int .i64 sf] 117 (0, 0))).drew := ⟨_, rfl⟩
          rw [← hwB]
          have hbB : Below Z WR.drew wB := by
            have q := ((Below.refl WR.heap.size WR).alloc (Nat.le_refl _) (.cells #[.string nm, .string dt, .int .i64 sf] 117 (0, 0))).drew
            rw [hwB, HZ.out]
            exact ⟨q.os, q.tape, q.output, q.size, q.block⟩
          have hSB := HS.out _ _ hbB hS0
          refine hK.out _ _ (fun _ => hSB) ?_
          have HzX := Lib.hid (show wB.heap.size = WR.heap.size + 1 from by rw [hwB]; show (World.alloc _ _).heap.size = _; simp)
          have KB : Blk wB WR.heap.size 117 #[.string nm, .string dt, .int .i64 sf] := by rw [hwB]; exact Blk.drewN (Blk.alloc_new WR _ _) 1
          clear hK K hwB
          try simp only [Act.put, List.setIfInBounds_toArray, List.set_cons_zero, List.set_cons_succ]
          refine sink_one 1 rfl (by kernel_rfl) ?_
          intro K hK
          go_simp
          obtain ⟨wA, hwA⟩ : ∃ wA, wA = wB.alloc (.cells #[] 117 (0, 0)) := ⟨_, rfl⟩
          rw [← hwA]
          have hbA : Below wB.heap.size wB wA := by rw [hwA]; exact (Below.refl _ _).alloc (Nat.le_refl _) _
          have hzz : Z ≤ wB.heap.size := by rw [HZ.out]; exact hbB.size
          have hSA := HS.out _ _ (hbA.mono hzz) hSB
          have hbAw := hbB.trans (hbA.mono hzz)
          have OA : OwnF wA Z (.slice (some ⟨wB.heap.size, 0, none⟩) 0 0) [] := by rw [hwA]; exact OwnF.base (ownF_new wB) hzz
          have KA := KB.below hbA
          refine hK.out _ _ (fun _ => hSA) ?_
          clear hK K hwA
          try simp only [Act.put, List.setIfInBounds_toArray, List.set_cons_zero, List.set_cons_succ]
          refine sink_one 8 rfl (by kernel_rfl) ?_
          intro K hK
          refine step_app rfl (.tmp 28) (.tmp 34) rfl Z _ [] rfl OA _ _ _ (d.files.take d.files.length) rfl (HsT.out _ hbAw) (by have := HL.out; simp only [List.length_nil]; omega) (by rw [HZ.out]; exact hbAw.size) ?_
          intro v1 w1 ho1 hc1
          have hb1 : Below Z wA w1 := hc1.below (by rw [HZ.out]; exact hbAw.size) (fun k hk e => by have := ((World.ownsRow.lt OA) k e).1; omega)
          have hb1w := hbAw.trans hb1
          have hS1 := HS.out _ _ hb1 hSA
          refine hK.out _ _ (fun _ => hS1) ?_
          clear hK K
          try simp only [Act.put, List.setIfInBounds_toArray, List.set_cons_zero, List.set_cons_succ]
          have HBP := Lib.hid hb1w
          have HO1 := Lib.hid (show OwnF w1 Z v1 (d.files.take d.files.length) from ho1)
          have HSB := Lib.hid (show SrcF w1 (some ⟨WR.heap.size, 0, none⟩) 1 1 [(nm.data.toList, (⟨dt.data.toList, sf⟩ : Fl))] from srcNew (KA.chg hc1 (fun e => by have e2 := Option.some.inj (show some wB.heap.size = some WR.heap.size from e); have hzz := HzX.out; omega)))
          have HZP := Lib.hid (show Z ≤ w1.heap.size from by rw [HZ.out]; exact hb1w.size)
          have hSP := hS1
          clear ho1 hc1 hb1 hb1w hbAw hbA hSA OA KA KB hSB hbB hS1
  
          refine sink_one 11 rfl (by kernel_rfl) ?_
          intro K hK
          refine step_app rfl (.tmp 35) (.tmp 37) rfl Z v1 (d.files.take d.files.length) rfl HO1.out _ 1 1 [(nm.data.toList, (⟨dt.data.toList, sf⟩ : Fl))] rfl HSB.out (by have := HL.out; simp only [List.length_singleton]; omega) HZP.out ?_
          intro v2 w2 ho2 hc2
          have hb2 : Below Z w1 w2 := hc2.below HZP.out (fun k hk e => by have := ((World.ownsRow.lt HO1.out) k e).1; omega)
          have HB2 := Lib.hid (HBP.out.trans hb2)
          have HO2 := Lib.hid ho2
          refine hK.out _ _ (fun _ => HS.out _ _ hb2 hSP) ?_
          have hS2 := HS.out _ _ hb2 hSP
          clear hK K ho2 hc2 hb2
          try simp only [Act.put, List.setIfInBounds_toArray, List.set_cons_zero, List.set_cons_succ]
  
          refine sink_one 18 rfl (by kernel_rfl) ?_
          intro K hK
          refine step_app rfl (.tmp 38) (.tmp 44) rfl Z v2 (d.files.take d.files.length ++ [(nm.data.toList, (⟨dt.data.toList, sf⟩ : Fl))]) rfl HO2.out (some ⟨b, d.files.length * 3, none⟩) 0 (c - d.files.length) (d.files.drop d.files.length) rfl (HsD.out _ HB2.out) (by have := HL.out; simp only [List.length_append, List.length_singleton]; omega) (by rw [HZ.out]; exact HB2.out.size) ?_
          intro v3 w3 ho3 hc3
          have hb3 : Below Z w2 w3 := hc3.below (by rw [HZ.out]; exact HB2.out.size) (fun k hk e => by have := ((World.ownsRow.lt HO2.out) k e).1; omega)
          have HB3 := Lib.hid (HB2.out.trans hb3)
          rw [HLI.out] at ho3
          have ho4 : OwnF w3 w.heap.size v3 (ins (nm.data.toList, ⟨dt.data.toList, sf⟩) d.files) := ho3.base (by omega)
          have Hfin := Lib.hid (row_end H.out.blk (HBW.out _ HB3.out) ho4)
          refine hK.out _ _ (fun _ => HS.out _ _ hb3 hS2) ?_
          have hS3 := HS.out _ _ hb3 hS2
          have hfz := HF.out _ HB3.out
          obtain ⟨x3, cc3, hv3, _⟩ := ho4.shape
          generalize (ins (nm.data.toList, (⟨dt.data.toList, sf⟩ : Fl)) d.files).length = N3 at hv3
          subst hv3
          clear hK K ho3 hc3 hb3 ho4 hS2
          try simp only [Act.put, List.setIfInBounds_toArray, List.set_cons_zero, List.set_cons_succ]
          refine sink_one 19 rfl (by kernel_rfl) ?_
          intro K hK
          go_simp
          refine hK.out _ _ (fun _ => hS3) ?_
          clear hK K
          refine sink_one 20 rfl (by kernel_rfl) ?_
          intro K hK
          go_simp
          refine hK.out _ _ (fun _ => hS3) ?_
          clear hK K
          refine sink_one 21 rfl (by kernel_rfl) ?_
          intro K hK
          obtain ⟨hs31, _⟩ := hS3
          go_simp
          refine hK.out _ _ (fun e => absurd rfl e) ?_
          refine sink_done (by kernel_rfl) ?_ _
          refine bodyPost_end (results_none rfl _ _ _) rfl ?_
          exact ⟨rfl, _, Hfin.out⟩
end
end Go.Proofs.Ytenbgfejonokdaa

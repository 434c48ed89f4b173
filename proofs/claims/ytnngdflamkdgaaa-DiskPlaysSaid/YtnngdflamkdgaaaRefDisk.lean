/- The reference's disk: its struct, its row of files; what it answers without a change. -/
import Derived.Test.YtnngdflamkdgaaaRowEach
namespace Go.Proofs.Ytnngdflamkdgaaa
open Go.RowKit Go.Maps
open Dsk

/-- Files as cells, three each. -/
def cellsF (m : Files) : List Value := m.flatMap fun p => [.string ⟨p.1.toArray⟩, .string ⟨p.2.data.toArray⟩, .int .i64 p.2.safe]
theorem cellsF_length (m : Files) : (cellsF m).length = m.length * 3 := by
  induction m with
  | nil => rfl
  | cons p r ih => simp only [cellsF, List.flatMap_cons, List.length_append] at ih ⊢; rw [ih]; simp; omega
theorem cellsF_append (a b : Files) : cellsF (a ++ b) = cellsF a ++ cellsF b := by simp [cellsF]
theorem cellsF_get : ∀ (m : Files) (i : Nat) (hi : i < m.length), (cellsF m)[i * 3]? = some (.string ⟨m[i].1.toArray⟩) ∧ (cellsF m)[i * 3 + 1]? = some (.string ⟨m[i].2.data.toArray⟩) ∧ (cellsF m)[i * 3 + 2]? = some (.int .i64 m[i].2.safe)
  | p :: r, 0, _ => ⟨rfl, rfl, rfl⟩
  | p :: r, i + 1, hi => by
    have h := cellsF_get r i (by simpa using hi)
    have e : ∀ k, (cellsF (p :: r))[(i + 1) * 3 + k]? = (cellsF r)[i * 3 + k]? := fun k => by
      rw [show (i + 1) * 3 + k = i * 3 + k + 3 by omega]; rfl
    exact ⟨(e 0).trans h.1, (e 1).trans h.2.1, (e 2).trans h.2.2⟩
/-- A row of files of the disk's own, from block B on. -/
def OwnF (w : World) (B : Nat) (v : Value) (m : Files) : Prop := w.ownsRow B 85 3 v m.length (cellsF m)
theorem OwnF.nil (w : World) (B : Nat) : OwnF w B (.slice none 0 0) [] := World.ownsRow_nil w B _ 3
theorem OwnF.base {w : World} {B B' : Nat} {v : Value} {m : Files} (h : OwnF w B v m) (hB : B' ≤ B) : OwnF w B' v m := by
  obtain ⟨h1, h2⟩ := h
  refine ⟨h1, ?_⟩
  rcases h2 with h2 | ⟨g, cap, cur, hv, hg, r⟩
  · exact .inl h2
  · exact .inr ⟨g, cap, cur, hv, Nat.le_trans hB hg, r⟩
theorem OwnF.chg {S : Nat → Prop} {w w' : World} {B : Nat} {v : Value} {m : Files} (h : OwnF w B v m) (x : Chg S w w') (hS : ∀ k, v.ownBlock = some k → ¬ S k) : OwnF w' B v m := by
  have hlt := World.ownsRow.lt h
  obtain ⟨h1, h2⟩ := h
  refine ⟨h1, ?_⟩
  rcases h2 with h2 | ⟨g, cap, cur, hv, hg, hh, r⟩
  · exact .inl h2
  · refine .inr ⟨g, cap, cur, hv, hg, ?_, r⟩
    have hb : v.ownBlock = some g := by rw [hv]; rfl
    rw [x.block g (hlt g hb).2 (hS g hb), hh]
theorem OwnF.below {w w' : World} {B : Nat} {v : Value} {m : Files} (h : OwnF w B v m) (x : Below w.heap.size w w') : OwnF w' B v m := h.chg (Chg.of_below x) (S := fun _ => False) (fun _ _ e => e)
theorem OwnF.shape {w : World} {B : Nat} {v : Value} {m : Files} (h : OwnF w B v m) : ∃ x c, v = .slice x m.length c ∧ m.length ≤ c := by
  obtain ⟨_, ⟨e, hl⟩ | ⟨g, cap, cur, hv, _, _, hc, _⟩⟩ := h
  · exact ⟨none, 0, by rw [e, hl], by omega⟩
  · exact ⟨_, _, hv, hc⟩
/-- The row's cells, where there is a file. -/
theorem OwnF.at_ {w : World} {B : Nat} {v : Value} {m : Files} (h : OwnF w B v m) (hm : 0 < m.length) : ∃ b c, v = .slice (some ⟨b, 0, none⟩) m.length c ∧ B ≤ b ∧ b < w.heap.size ∧ (∀ j, w.frozen? ⟨b, j, none⟩ = false) ∧
    ∀ i (hi : i < m.length), w.cell? ⟨b, i * 3, none⟩ = some (.string ⟨m[i].1.toArray⟩) ∧ w.cell? ⟨b, i * 3 + 1, none⟩ = some (.string ⟨m[i].2.data.toArray⟩) ∧ w.cell? ⟨b, i * 3 + 2, none⟩ = some (.int .i64 m[i].2.safe) := by
  have hlt := World.ownsRow.lt h
  have hcs := fun g (hg : v.ownBlock = some g) => World.ownsRow.cells h hg
  obtain ⟨h1, h2⟩ := h
  rcases h2 with ⟨rfl, h2⟩ | ⟨g, cap, cur, hv, hg, hh, r⟩
  · omega
  · have hgl := (hlt g (by rw [hv]; rfl)).2
    refine ⟨g, cap, hv, hg, hgl, fun j => by simp [World.frozen?, hh], fun i hi => ?_⟩
    obtain ⟨c0, c1, c2⟩ := cellsF_get m i hi
    have hk := fun j u hj => hcs g (by rw [hv]; rfl) j u hj
    have e : ∀ j, (⟨g, 0, none⟩ : Addr).add j = ⟨g, j, none⟩ := fun j => by unfold Addr.add; split <;> simp_all
    simp only [e] at hk
    exact ⟨hk _ _ c0, hk _ _ c1, hk _ _ c2⟩
/-- The reference's disk in memory: the struct in block br, its row vl, what is kept at a Fail vk, is one set, its counter nf. -/
structure RefIn (w : World) (F : Nat → Prop) (br : Nat) (vl vk : Value) (st : Bool) (nf : Int) (d : Dk) : Prop where
  blk : Blk w br 83 #[.int .i64 d.room, .int .i64 d.starts, .bool d.off, .bool st, vl, .int .i64 nf, vk]
  row : OwnF w 0 vl d.files
  kept : OwnI w 0 vk d.keep
  fr : F br
  fl : ∀ k, vl.ownBlock = some k → F k
  fk : ∀ k, vk.ownBlock = some k → F k
  ok : Ok d
  lt : ∀ k, F k → k < w.heap.size
def RefAt (w : World) (F : Nat → Prop) (v : Value) (d : Dk) : Prop := ∃ br vl vk st nf, v = .pointer (some ⟨br, 0, none⟩) ∧ RefIn w F br vl vk st nf d ∧ st = d.fail.isSome ∧ (∀ n, d.fail = some n → nf = n) ∧ FOk d
/-- Is it the name's place? -/
def Place (m : Files) (name : Str) (r : Int) : Prop := (r = -1 ∧ get m name = none) ∨ ∃ (i : Nat) (hi : i < m.length), r = i ∧ m[i].1 = name
section
variable {w : World} {F : Nat → Prop} {br : Nat} {vl vk : Value} {st : Bool} {nf : Int} {d : Dk}
theorem RefIn.chg (h : RefIn w F br vl vk st nf d) {w' : World} {S : Nat → Prop} (x : Chg S w w') (hS : ∀ k, F k → ¬ S k) : RefIn w' F br vl vk st nf d :=
  ⟨h.blk.chg x (hS _ h.fr), h.row.chg x (fun k e => hS _ (h.fl k e)), h.kept.chg x (fun k e => hS _ (h.fk k e)), h.fr, h.fl, h.fk, h.ok, fun k e => Nat.lt_of_lt_of_le (h.lt k e) x.size⟩
theorem RefIn.below (h : RefIn w F br vl vk st nf d) {w' : World} (x : Below w.heap.size w w') : RefIn w' F br vl vk st nf d := h.chg (Chg.of_below x) (S := fun _ => False) (fun _ _ e => e)
theorem RefAt.below {v : Value} (h : RefAt w F v d) {w' : World} (x : Below w.heap.size w w') : RefAt w' F v d := by
  obtain ⟨br, vl, vk, st, nf, e, h, hf⟩ := h
  exact ⟨br, vl, vk, st, nf, e, h.below x, hf⟩

theorem refBad_any (name : ByteArray) (hn : name.size ≤ maxLen) (w : World) : Calls Try.prog 68 #[.string name] w fun e w' => e = .returned (.bool (!decide (Named name.data.toList))) ∧ w = w' := by
  have hz : name.data.toList.length = name.size := by simp
  have hm : name.size ≤ 9223372036854775807 := by unfold maxLen at hn; omega
  by_cases h1 : name.size < 1
  · have e : decide (Named name.data.toList) = false := decide_eq_false (by unfold Named; omega)
    rw [e]
    have q : decide ((name.size : Int) < 1) = true := decide_eq_true (by omega)
    have q' : decide (name.size < 1) = true := decide_eq_true (by omega)
    clear e hz hn
    go_enter Try.func68, Try.ntmps68
    go_wp2_with fail
    go_ret
    exact ⟨rfl, rfl⟩
  · by_cases h2 : 16 < name.size
    · have e : decide (Named name.data.toList) = false := decide_eq_false (by unfold Named; omega)
      rw [e]
      have q : decide ((name.size : Int) < 1) = false := decide_eq_false (by omega)
      have q' : decide (name.size < 1) = false := decide_eq_false (by omega)
      have q2 : decide ((16 : Int) < (name.size : Int)) = true := decide_eq_true (by omega)
      have q2' : decide (16 < name.size) = true := decide_eq_true (by omega)
      clear e hz hn
      go_enter Try.func68, Try.ntmps68
      go_wp2_with fail
      go_ret
      exact ⟨rfl, rfl⟩
    · have e : decide (Named name.data.toList) = true := decide_eq_true (by unfold Named; omega)
      rw [e]
      have q : decide ((name.size : Int) < 1) = false := decide_eq_false (by omega)
      have q' : decide (name.size < 1) = false := decide_eq_false (by omega)
      have q2 : decide ((16 : Int) < (name.size : Int)) = false := decide_eq_false (by omega)
      have q2' : decide (16 < name.size) = false := decide_eq_false (by omega)
      clear e hz hn
      go_enter Try.func68, Try.ntmps68
      go_wp2_with fail
      go_ret
      exact ⟨rfl, rfl⟩
set_option maxHeartbeats 1000000 in
theorem refPlace_in (h : RefIn w F br vl vk st nf d) (name : ByteArray) :
    Calls Try.prog 57 #[.pointer (some ⟨br, 0, none⟩), .string name] w fun e w' => ∃ r, e = .returned (.int .i64 r) ∧ Place d.files name.data.toList r ∧ w = w' := by
  obtain ⟨x, c, rfl, _⟩ := h.row.shape
  have c4 := h.blk.cell 4
  simp at c4
  have H := Lib.hid h
  have hcnt := h.ok.count
  obtain ⟨m, hm⟩ : ∃ m, m = d.files := ⟨_, rfl⟩
  rw [← hm] at c4 hcnt
  have HM := Lib.hid hm
  rw [← hm]
  clear h hm
  go_enter Try.func57, Try.ntmps57
  go_wp2_with fail
  go_loopw [5] (fun v5 wr => ∃ i : Nat, v5 = .int .i64 i ∧ i ≤ m.length ∧ wr = w ∧ ∀ j (hj : j < m.length), j < i → m[j].1 ≠ name.data.toList) (fun v5 _ => m.length - (intOf v5).toNat)
  case atStart => exact ⟨0, rfl, Nat.zero_le _, rfl, fun _ _ e => absurd e (Nat.not_lt_zero _)⟩
  case round =>
    obtain ⟨i, rfl, hi, rfl, hno⟩ := hrel
    have Hno := Lib.hid hno
    clear hno
    by_cases hlt : i < m.length
    · obtain ⟨b, c', hv, _, hb, _, hcell⟩ := H.out.row.at_ (by rw [← HM.out]; omega)
      injection hv with e1 e2 e3
      subst e1 e3
      have hc0 := (hcell i (by rw [← HM.out]; exact hlt)).1
      obtain ⟨nm, hnm⟩ : ∃ nm : ByteArray, nm = ⟨m[i].1.toArray⟩ := ⟨_, rfl⟩
      have hc : wr.cell? ⟨b, i * 3, none⟩ = some (.string nm) := by rw [hnm]; subst m; exact hc0
      have hi2 : (i : Int) < m.length := by omega
      by_cases he : nm = name
      · have q : (nm.toList == name.toList) = true := by rw [text_beq]; exact decide_eq_true he
        have Hne := Lib.hid (show m[i].1 = name.data.toList by rw [← he, hnm])
        clear hcell hc0 e2 hnm he
        go_wp2_with fail
        go_ret
        exact ⟨i, rfl, .inr ⟨i, hlt, rfl, Hne.out⟩, rfl⟩
      · have q : (nm.toList == name.toList) = false := by rw [text_beq]; exact decide_eq_false he
        have Hne := Lib.hid (show m[i].1 ≠ name.data.toList from fun e => he (by rw [hnm, e]))
        clear hcell hc0 e2 hnm he
        go_wp2_with fail
        go_roundw
        case rel =>
          refine ⟨i + 1, by go_num, by omega, by trivial, fun j hj hji => ?_⟩
          by_cases e : j = i
          · subst e; exact Hne.out
          · exact Hno.out j hj (by omega)
        case measure => simp [intOf]; omega
    · go_wp2_with fail
      go_ret
      refine ⟨-1, rfl, .inl ⟨rfl, ?_⟩, rfl⟩
      cases hg : get m name.data.toList with
      | none => rfl
      | some f =>
        obtain ⟨j, hj, e⟩ := List.getElem_of_mem (get_mem hg)
        exact absurd (by rw [e]) (Hno.out j hj (by omega))
end
end Go.Proofs.Ytnngdflamkdgaaa

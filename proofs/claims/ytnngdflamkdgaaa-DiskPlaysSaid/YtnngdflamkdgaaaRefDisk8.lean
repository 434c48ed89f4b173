/- The reference's disk: Sync, Remove, Start, New. -/
import Derived.Test.YtnngdflamkdgaaaRefDisk7
namespace Go.Proofs.Ytnngdflamkdgaaa
set_option maxRecDepth 100000
open Go.RowKit Go.Maps
open Dsk

theorem parts {m : Files} {i : Nat} (hi : i < m.length) : m = m.take i ++ (m[i].1, m[i].2) :: m.drop (i + 1) := by
  have h := List.take_append_drop i m
  rw [List.drop_eq_getElem_cons hi] at h
  exact h.symm
theorem set_put {m : Files} (hr : Rising m) {i : Nat} (hi : i < m.length) {name : Str} (e : m[i].1 = name) (g : Fl) : m.set i (m[i].1, g) = put m name g := by
  have h := parts hi
  have hl : (m.take i).length = i := by rw [List.length_take]; omega
  have h2 : put (m.take i ++ (m[i].1, m[i].2) :: m.drop (i + 1)) m[i].1 g = m.take i ++ (m[i].1, g) :: m.drop (i + 1) := put_mid (by rw [← h]; exact hr)
  rw [← h] at h2
  rw [← e, h2, List.set_eq_take_append_cons_drop, if_pos hi]
theorem cut_del {m : Files} (hr : Rising m) {i : Nat} (hi : i < m.length) {name : Str} (e : m[i].1 = name) : m.take i ++ m.drop (i + 1) = del m name := by
  have h := parts hi
  have hp : Rising (m.take i ++ (m[i].1, m[i].2) :: m.drop (i + 1)) := by rw [← h]; exact hr
  have h2 := List.pairwise_append.1 hp
  have h3 := List.pairwise_cons.1 h2.2.1
  have e1 : del (m.take i) name = m.take i := List.filter_eq_self.2 fun p hq => by
    have := before_ne (h2.2.2 p hq _ (List.mem_cons_self ..))
    rw [e] at this
    simpa using this
  have e2 : del (m.drop (i + 1)) name = m.drop (i + 1) := List.filter_eq_self.2 fun p hq => by
    have := before_ne (h3.1 p hq)
    rw [e] at this
    simpa using Ne.symm this
  have e3 : del m name = del (m.take i ++ (m[i].1, m[i].2) :: m.drop (i + 1)) name := by rw [← h]
  have e4 : del (m.take i ++ (m[i].1, m[i].2) :: m.drop (i + 1)) name = del (m.take i) name ++ del (m.drop (i + 1)) name := by
    unfold del
    rw [List.filter_append, List.filter_cons_of_neg (by simp [e])]
  rw [e3, e4, e1, e2]
theorem del_ins_same (k : Str) (f : Fl) : ∀ m : Files, del (ins (k, f) m) k = del m k
  | [] => by simp [ins, del]
  | y :: r => by
    unfold ins
    split
    · simp [del]
    · have ih := del_ins_same k f r
      unfold del at ih ⊢
      rw [List.filter_cons, List.filter_cons, ih]
theorem put_put (m : Files) (k : Str) (f g : Fl) : put (put m k f) k g = put m k g := by
  have h : del (del m k) k = del m k := by unfold del; rw [List.filter_filter]; simp
  unfold put
  rw [del_ins_same, h]

theorem set_there {α : Type} {l : List α} {i : Nat} {x : α} (h : l[i]? = some x) : l.set i x = l := by
  obtain ⟨hi, rfl⟩ := List.getElem?_eq_some_iff.1 h
  exact List.set_getElem_self hi

/-- What an act of the reference's disk leaves. -/
def DidR (w : World) (F : Nat → Prop) (v : Value) (x : Int × Dk) (r : Int) (w' : World) : Prop := r = x.1 ∧ ∃ F', RefAt w' F' v x.2 ∧ Grow F F' w w'
section
variable {w : World} {F : Nat → Prop} {br : Nat} {vl vk : Value} {st : Bool} {nf : Int} {d : Dk}
theorem RefAt.ok {v : Value} (h : RefAt w F v d) : Ok d := by obtain ⟨_, _, _, _, _, _, h, _⟩ := h; exact h.ok
theorem RefAt.lt {v : Value} (h : RefAt w F v d) : ∀ k, F k → k < w.heap.size := by obtain ⟨_, _, _, _, _, _, h, _⟩ := h; exact h.lt
theorem DidR.same {v : Value} (h : RefAt w F v d) {w' : World} (hb : Below w.heap.size w w') (r : Int) : DidR w F v (r, d) r w' := ⟨rfl, F, h.below hb, Grow.same hb⟩
/-- Another row in the disk's struct. -/
theorem RefIn.newRow (h : RefIn w F br vl vk st nf d) {w' : World} {vl' : Value} {m : Files} (ho : OwnF w' w.heap.size vl' m)
    (hb : Blk w' br 83 #[.int .i64 d.room, .int .i64 d.starts, .bool d.off, .bool st, vl', .int .i64 nf, vk]) (hc : Chg (· = br) w w') (hok : Ok { d with files := m }) :
    RefIn w' (fun k => F k ∨ vl'.ownBlock = some k) br vl' vk st nf { d with files := m } ∧ Grow F (fun k => F k ∨ vl'.ownBlock = some k) w w' := by
  have hlt := World.ownsRow.lt ho
  refine ⟨⟨hb, ho.base (Nat.zero_le _), h.kept.chg hc (fun k e x => h.kept.ne_blk h.blk (x ▸ e)), .inl h.fr, fun k e => .inr e, fun k e => .inl (h.fk k e), hok, fun k e => ?_⟩, hc.mono fun k _ e => e ▸ h.fr, fun k e => ?_⟩
  · rcases e with e | e
    · exact Nat.lt_of_lt_of_le (h.lt k e) hc.size
    · exact (hlt k e).2
  · rcases e with e | e
    · exact .inl e
    · exact .inr (hlt k e).1
/-- The same row with another file's datum. -/
theorem RefIn.oneRow (h : RefIn w F br vl vk st nf d) {w' : World} {m : Files} (ho : OwnF w' 0 vl m) (hc : Chg (fun k => vl.ownBlock = some k) w w') (hok : Ok { d with files := m }) :
    RefIn w' F br vl vk st nf { d with files := m } :=
  ⟨h.blk.chg hc (h.row.ne_blk h.blk), ho, h.kept.chg hc (fun _ e x => h.kept.ne_row h.row e x), h.fr, h.fl, h.fk, hok, fun k e => Nat.lt_of_lt_of_le (h.lt k e) hc.size⟩
theorem OwnF.one2 {b n c : Nat} {B : Nat} {m : Files} (h : OwnF w B (.slice (some ⟨b, 0, none⟩) n c) m) {w1 : World} (hw : Below w.heap.size w w1) {i : Nat} (hi : i < m.length) (t : Nat) :
    OwnF (w1.setCell ⟨b, i * 3 + 2, none⟩ (.int .i64 t)) B (.slice (some ⟨b, 0, none⟩) n c) (m.set i (m[i].1, ⟨m[i].2.data, t⟩)) ∧ Chg (fun k => (Value.slice (some ⟨b, 0, none⟩) n c).ownBlock = some k) w (w1.setCell ⟨b, i * 3 + 2, none⟩ (.int .i64 t)) := by
  obtain ⟨_, _, hv, _⟩ := h.shape
  injection hv with _ hn _
  subst hn
  have h1 := h.below hw
  have h3 := World.ownsRow.stored h1 (i * 3 + 2) (.int .i64 t)
  have e : (cellsF m).set (i * 3 + 2) (.int .i64 t) = cellsF (m.set i (m[i].1, ⟨m[i].2.data, t⟩)) := by
    have := cellsF_set m i hi ⟨m[i].2.data.toArray⟩ t
    rwa [set_there (cellsF_get m i hi).2.1] at this
  rw [e] at h3
  refine ⟨?_, (Chg.of_below hw).trans ((Chg.grown h3.2).mono fun k _ e => by rw [e]; rfl)⟩
  unfold OwnF
  rw [List.length_set]
  exact h3.1
end
end Go.Proofs.Ytnngdflamkdgaaa

/- Rows of a disk's names and numbers, one by one; what stays. No function of a law. -/
import Derived.Test.YtnngdflamkdgaaaLivePB
import Derived.BigQuiet
namespace Go.Proofs.Ytnngdflamkdgaaa
set_option maxRecDepth 100000
open Go.RowKit Go.Maps
open Dsk

theorem bytesLess_before : ∀ a b : List UInt8, Op.bytesLess a b = bytesBefore a b
  | [], [] => rfl
  | [], _ :: _ => rfl
  | _ :: _, [] => rfl
  | a :: r, b :: s => by simp only [Op.bytesLess, bytesBefore, bytesLess_before r s]
theorem leq_false {a b : Str} (h : bytesBefore b a = true) : (Op.bytesLess a b || a == b) = false := by
  rw [bytesLess_before]
  have h1 : bytesBefore a b = false := by
    cases e : bytesBefore a b with
    | false => rfl
    | true => have := before_trans h e; rw [before_irrefl] at this; cases this
  rw [h1, Bool.false_or, beq_eq_false_iff_ne]
  exact (before_ne h).symm
theorem names_at_rising {m : Files} (h : Rising m) (k : Nat) (hk : k < m.length) (h0 : 0 < k) : bytesBefore (m[k - 1]'(by omega)).1 m[k].1 = true :=
  List.pairwise_iff_getElem.1 h (k - 1) k (by omega) hk (by omega)
theorem OwnS.chg {S : Nat → Prop} {w w' : World} {B : Nat} {v : Value} {l : List ByteArray} (h : OwnS w B v l) (x : Chg S w w') (hS : ∀ k, v.ownBlock = some k → ¬ S k) : OwnS w' B v l := by
  have hlt := World.ownsRow.lt h
  obtain ⟨h1, h2⟩ := h
  refine ⟨h1, ?_⟩
  rcases h2 with h2 | ⟨g, cap, cur, hv, hg, hh, r⟩
  · exact .inl h2
  · refine .inr ⟨g, cap, cur, hv, hg, ?_, r⟩
    have hb : v.ownBlock = some g := by rw [hv]; rfl
    rw [x.block g (hlt g hb).2 (hS g hb), hh]
/-- A row that was made since w stays while what is kept is kept. -/
theorem OwnS.keeps {w w1 w2 : World} {X : Nat → Prop} {v : Value} {l : List ByteArray} (h : OwnS w1 w.heap.size v l) (x : Keeps (Also X w w1) w1 w2) : OwnS w2 w.heap.size v l :=
  h.chg x fun k hk hx => hx (.inr ((World.ownsRow.lt h) k hk))
theorem OwnI.each {w : World} {B : Nat} {v : Value} {l : List Int} (h : OwnI w B v l) : ∃ x c, v = .slice x l.length c ∧ ∀ (j : Nat) (hj : j < l.length), ∃ b, x = some ⟨b, 0, none⟩ ∧ B ≤ b ∧ b < w.heap.size ∧ w.cell? ⟨b, j, none⟩ = some (.int .i64 l[j]) := by
  have hlt := World.ownsRow.lt h
  have hcs := fun g (hg : v.ownBlock = some g) => World.ownsRow.cells h hg
  obtain ⟨h1, h2⟩ := h
  rcases h2 with ⟨rfl, h2⟩ | ⟨g, cap, cur, hv, hg, hh, r⟩
  · exact ⟨none, 0, by rw [h2], fun j hj => absurd hj (by omega)⟩
  · refine ⟨some ⟨g, 0, none⟩, cap, hv, fun j hj => ⟨g, rfl, hg, (hlt g (by rw [hv]; rfl)).2, ?_⟩⟩
    have := hcs g (by rw [hv]; rfl) j (.int .i64 l[j]) (by rw [List.getElem?_map, List.getElem?_eq_getElem hj]; rfl)
    have e : (⟨g, 0, none⟩ : Addr).add j = ⟨g, j, none⟩ := by unfold Addr.add; split <;> simp_all
    rw [← e]; exact this
theorem OwnI.keeps {w w1 w2 : World} {X : Nat → Prop} {v : Value} {l : List Int} (h : OwnI w1 w.heap.size v l) (x : Keeps (Also X w w1) w1 w2) : OwnI w2 w.heap.size v l :=
  h.chg x fun k hk hx => hx (.inr ((World.ownsRow.lt h) k hk))
theorem OwnS.base {w : World} {B B' : Nat} {v : Value} {l : List ByteArray} (h : OwnS w B v l) (hB : B' ≤ B) : OwnS w B' v l := by
  obtain ⟨h1, h2⟩ := h
  refine ⟨h1, ?_⟩
  rcases h2 with h2 | ⟨g, cap, cur, hv, hg, r⟩
  · exact .inl h2
  · exact .inr ⟨g, cap, cur, hv, Nat.le_trans hB hg, r⟩
theorem Live.crashP {w0 w : World} {X : Nat → Prop} {v : Value} {d d' : Dk} {r : Int} (h : Live w0 X w v d) (kv0 : Value) (keep : List Int) (hk : KeepR w (fun k => ¬ X k ∧ w0.heap.size ≤ k) kv0 keep) (hkl : keep.length ≤ 9223372036854775807) (he : d.crash keep = (r, d')) :
    Calls Try.prog 35 #[v, kv0] w fun e w' => e = .returned (.int .i64 r) ∧ Live w0 X w' v d' ∧ Keeps X w w' := by
  refine (h.crash kv0 keep hk hkl).mono fun _ _ x => ?_
  rw [he] at x
  exact x
theorem Live.startK {w0 w : World} {X : Nat → Prop} {v : Value} {d d' : Dk} {r : Int} (h : Live w0 X w v d) (he : d.start = (r, d')) :
    Calls Try.prog 15 #[v] w fun e w' => e = .returned (.int .i64 r) ∧ Live w0 X w' v d' ∧ Keeps X w w' := by
  refine h.start.mono fun _ _ x => ?_
  rw [he] at x
  exact x
theorem keepR_nil (w : World) (S : Nat → Prop) : KeepR w S (.slice none 0 0) [] := ⟨none, 0, rfl, fun _ => rfl, fun j hj => absurd hj (by simp)⟩
theorem unsynced_get (d : Dk) (k : Nat) (hk : k < d.files.length) (hk' : k < d.unsynced.length) : d.unsynced[k] = (d.files[k].2.data.length : Int) - d.files[k].2.safe := by simp [Dk.unsynced]

end Go.Proofs.Ytnngdflamkdgaaa

/- 'great', 'Played', 'ready': walked. -/
import Derived.Test.YtnngdflamkdgaaaDiskDoes2
namespace Go.Proofs.Ytnngdflamkdgaaa
open Go.RowKit Go.Maps
open Dsk

def SmallA (a : ActS) : Prop := a.name.size ≤ 500 ∧ a.other.size ≤ 500 ∧ a.data.size ≤ 3000 ∧ a.keep.length ≤ 100
def Small (l : List ActS) : Prop := l.length ≤ 150 ∧ ∀ (j : Nat) (hj : j < l.length), SmallA l[j]
theorem KeepR.form {w : World} {S : Nat → Prop} {v : Value} {l : List Int} (h : KeepR w S v l) : ∃ x c, v = .slice x l.length c := by obtain ⟨x, c, e, _⟩ := h; exact ⟨x, c, e⟩
def GreatPost (l : List ActS) (w : World) (e : Ending) (w' : World) : Prop := ∃ b, e = .returned (.bool b) ∧ (b = false → Small l) ∧ w = w'
set_option maxRecDepth 100000 in
set_option maxHeartbeats 4000000 in
theorem great_any (v : Value) (l : List ActS) (B : Nat) (w : World) (h : RdA w B v l) (hm : l.length ≤ 9223372036854775807) :
    Calls Try.prog 18 #[v] w (GreatPost l w) := by
  obtain ⟨x, c, rfl, hel⟩ := h
  have Hel := Lib.hid hel
  clear hel
  go_enter Try.func18, Try.ntmps18
  go_wp2_with fail
  go_loop [3, 4] (fun v3 v4 => ∃ (k : Nat) (n : Nat), v4 = .int .i64 k ∧ k ≤ l.length ∧ v3 = .int .i64 n ∧ n ≤ 60000 ∧ ∀ (j : Nat) (hj : j < l.length), j < k → SmallA l[j]) (fun _ v4 => l.length - (intOf v4).toNat)
  case atStart => exact ⟨0, 0, rfl, Nat.zero_le _, rfl, Nat.zero_le _, fun j _ hj => absurd hj (by omega)⟩
  case round =>
    obtain ⟨k, n, rfl, hk, rfl, hn, hsm⟩ := hrel
    have Hsm := Lib.hid hsm
    clear hsm
    by_cases hlt : k < l.length
    · obtain ⟨ho, b, off, rfl, _, _, hc⟩ := Hel.out k hlt
      have c1 := hc 1 (by omega)
      have c2 := hc 2 (by omega)
      have c3 := hc 3 (by omega)
      have c5 := hc 5 (by omega)
      have n1 := ho.name
      have n2 := ho.other
      have n3 := ho.data
      have n5 := ho.keep
      unfold maxLen at n1 n2 n3 n5
      obtain ⟨kx, kc, hkv⟩ := ho.kv.form
      rw [← Nat.add_assoc] at c1 c2 c3 c5
      simp only [actCells] at c1 c2 c3 c5
      simp at c1 c2 c3 c5
      obtain ⟨a, ha⟩ : ∃ a, a = l[k] := ⟨_, rfl⟩
      rw [← ha] at c1 c2 c3 c5 n1 n2 n3 n5 hkv
      obtain ⟨ak, an, ao, ad, ai, av, akl⟩ := a
      have HA := Lib.hid ha
      clear ha
      simp only at c1 c2 c3 c5 n1 n2 n3 n5 hkv
      subst hkv
      clear hc ho
      go_wp2_with fail
      all_goals first
        | (go_ret; exact ⟨true, rfl, fun h => (by cases h), rfl⟩)
        | (go_round
           case rel => exact ⟨k + 1, n + ad.size, by go_num, by omega, by go_num, by omega, fun j hj hjk => (by
             by_cases e : j < k
             · exact Hsm.out j hj e
             · obtain rfl : j = k := by omega
               rw [← HA.out]; exact ⟨by show an.size ≤ 500; omega, by show ao.size ≤ 500; omega, by show ad.size ≤ 3000; omega, by show akl.length ≤ 100; omega⟩)⟩
           case measure => simp [intOf]; omega)
    · have hge : ¬ (k : Int) < l.length := by omega
      obtain rfl : k = l.length := by omega
      go_wp2_with fail
      go_ret
      refine ⟨_, rfl, fun hb => ⟨?_, fun j hj => Hsm.out j hj hj⟩, rfl⟩
      have h2 : ¬ (150 : Int) < l.length := by simpa using hb
      omega
end Go.Proofs.Ytnngdflamkdgaaa

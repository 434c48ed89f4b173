/- The chapter's manifest, reckoned: what its edits lead to, its bytes, its frames, its disk's files. -/
import Derived.Test.YtcijhhnbhnaiaaaGreatEdLivesP
import Derived.Test.YtcijhhnbhnaiaaaGreatEdDecS
import Derived.Test.YtcijhhnbhnaiaaaGreatFramesPlain
import Derived.Test.YtcijhhnbhnaiaaaGreatManA
namespace Go.Proofs.YtcijhhnbhnaiaaaGreat
set_option linter.unusedSimpArgs false
set_option linter.unusedVariables false
set_option maxRecDepth 100000
open Go.RowKit
open Dsk

theorem mapp : allQ st0 [e1, e2] = some sA2 := by
  unfold allQ
  rw [if_pos valid0]
  unfold Ed.allP
  rw [ap1]
  show Ed.allP sA1 [e2] = _
  unfold Ed.allP
  rw [ap2]
  rfl
theorem mnone {s : Ed.St} (h : Ed.Valid s) : allQ s [] = some s := by unfold allQ; rw [if_pos h]; rfl
theorem mref : allQ sA2 [e1] = none := by
  unfold allQ
  rw [if_pos validA2]
  unfold Ed.allP Ed.applyP
  rw [if_pos ⟨validA2, by decide⟩]
  have : Ed.doesP sA2 e1 = none := by
    unfold Ed.doesP e1
    rw [if_neg (by decide), dif_pos (by decide), if_pos (by decide), if_neg (by decide)]
  rw [this]
/-- The bytes of the first state, of the two edits; their frames. -/
def mb0 : Str := [1, 2, 1, 0, 0]
def mb1 : Str := [2, 1, 0, 5, 0, 0, 3, 0, 0, 0, 1, 109]
theorem mb0_eq : Ed.encS st0 = mb0 := by decide +kernel
theorem mb1_eq : Ed.enc [e1, e2] = mb1 := by decide +kernel
def mf0 : Str := Frm.frame mb0
def mf1 : Str := Frm.frame mb1
def md0 : Dk := Dk.new 10000
def md1 : Dk := (md0.append draM mf0).2
def md2 : Dk := (md1.sync draM).2
def md3 : Dk := (md2.rename draM manN).2
def md4 : Dk := (md3.append manN mf1).2
def md5 : Dk := (md4.sync manN).2
def md6 : Dk := (md5.crash []).2
def md7 : Dk := md6.start.2
theorem pair_of {x : Int × Dk} {r : Int} {d : Dk} (h1 : x.1 = r) (h2 : x.2 = d) : x = (r, d) := by rw [← h1, ← h2]
theorem mk0 : md0.read manN = ([], 4) := by decide +kernel
theorem mk1 : md0.remove draM = (4, md0) := pair_of (by decide +kernel) rfl
theorem mk2 : md0.append draM mf0 = (0, md1) := pair_of (by decide +kernel) rfl
theorem mk3 : md1.sync draM = (0, md2) := pair_of (by decide +kernel) rfl
theorem mk4 : md2.rename draM manN = (0, md3) := pair_of (by decide +kernel) rfl
theorem mk5 : md3.append manN mf1 = (0, md4) := pair_of (by decide +kernel) rfl
theorem mk6 : md4.sync manN = (0, md5) := pair_of (by decide +kernel) rfl
theorem mk7 : md5.crash [] = (0, md6) := pair_of (by decide +kernel) rfl
theorem mk8 : md6.start = (0, md7) := pair_of (by decide +kernel) rfl
theorem mk9 : md7.read manN = (mf0 ++ mf1, 0) := by decide +kernel
theorem moff : md0.off = false ∧ md3.off = false ∧ md5.off = false ∧ md6.off = true ∧ md7.off = false := by decide +kernel
theorem mst : md0.starts = 0 ∧ md3.starts = 0 ∧ md5.starts = 0 ∧ md6.starts = 0 ∧ md7.starts = 1 := by decide +kernel
theorem mwhole : Frm.whole (mf0 ++ mf1).length (mf0 ++ mf1) = ([mb0, mb1], (mf0 ++ mf1).length) := by decide +kernel
theorem mlen : mf0.length = 13 ∧ mf1.length = 20 ∧ (mf0 ++ mf1).length = 33 := by decide +kernel
theorem mdec0 : Ed.decS mb0 = some (st0, mb0.length) := by
  have h := Ed.decS_enc st0 [] (fun t ht => by
    simp only [st0, List.mem_singleton] at ht
    subst ht
    exact ⟨by simp, by decide, by decide⟩) (by decide) (by decide) (by decide)
  rw [List.append_nil, mb0_eq] at h
  exact h
theorem mdec1 : Ed.decE mb1 = some ([e1, e2], mb1.length) := by
  have h := Ed.decE_enc [e1, e2] (fun e he => by
    simp only [List.mem_cons, List.not_mem_nil, or_false] at he
    rcases he with rfl | rfl
    · exact ⟨by decide, by decide, by decide, by simp [e1], by decide, by decide⟩
    · exact ⟨by decide, by decide, by decide, by simp [e2], by decide, by decide⟩) (by decide)
  rw [mb1_eq] at h
  exact h
end Go.Proofs.YtcijhhnbhnaiaaaGreat

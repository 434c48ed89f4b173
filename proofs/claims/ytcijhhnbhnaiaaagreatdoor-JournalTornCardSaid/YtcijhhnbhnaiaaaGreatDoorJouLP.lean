/- The chapter's journal, reckoned. -/
import Derived.Test.YtcijhhnbhnaiaaaGreatDoorJouJ
import Derived.Test.YtcijhhnbhnaiaaaGreatDoorJouK
namespace Go.Proofs.YtcijhhnbhnaiaaaGreatDoor
set_option linter.unusedSimpArgs false
set_option linter.unusedVariables false
set_option maxRecDepth 100000
open Dsk

theorem jn3 : jn 3 = [106, 51] := by unfold jn; rw [Lib.decDigits_one (by decide)]; rfl
theorem jn5 : jn 5 = [106, 53] := by unfold jn; rw [Lib.decDigits_one (by decide)]; rfl
theorem jn1 : jn 1 = [106, 49] := by unfold jn; rw [Lib.decDigits_one (by decide)]; rfl
/-- jApp, by a file's name. -/
def jAppS (d : Dk) (name : Str) (l : List Jou.Cell) : Int × Bool × Dk :=
  if (encQ l).2 ≠ 0 then ((encQ l).2, false, d)
  else if l.length = 0 then (0, false, d)
  else if 16384 < (encQ l).1.length then (3, false, d)
  else
    let a := d.append name (Frm.frame (encQ l).1)
    if a.1 ≠ 0 then (a.1, a.1 != 50, a.2)
    else
      let b := a.2.sync name
      if b.1 ≠ 0 then (b.1, true, b.2) else (0, false, b.2)
theorem jApp_eq (d : Dk) (n : Nat) (l : List Jou.Cell) : jApp d n l = jAppS d (jn n) l := rfl
theorem trip_of {x : Int × Bool × Dk} {r : Int} {b : Bool} {d : Dk} (h1 : x.1 = r) (h2 : x.2.1 = b) (h3 : x.2.2 = d) : x = (r, b, d) := by rw [← h1, ← h2, ← h3]
theorem dpair_of {x : Int × Dk} {r : Int} {d : Dk} (h1 : x.1 = r) (h2 : x.2 = d) : x = (r, d) := by rw [← h1, ← h2]
def jd0 : Dk := Dk.new 10000
def jd1 : Dk := (jAppS jd0 [106, 51] [jc1, jc2]).2.2
def jd2 : Dk := (jd1.crash []).2
def jd3 : Dk := jd2.start.2
def jd4 : Dk := (jd3.remove [106, 51]).2
def jd5 : Dk := (jAppS jd4 [106, 53] [jc1]).2.2
def jb1 : Str := Jou.enc [jc1, jc2]
def jb5 : Str := Jou.enc [jc1]
def jt1 : Str := Frm.frame jb1
def jt5 : Str := Frm.frame jb5
theorem ja1 : jApp jd0 3 [jc1, jc2] = (0, false, jd1) := by
  rw [jApp_eq, jn3]
  exact trip_of (by decide +kernel) (by decide +kernel) rfl
theorem ja5 : jApp jd4 5 [jc1] = (0, false, jd5) := by
  rw [jApp_eq, jn5]
  exact trip_of (by decide +kernel) (by decide +kernel) rfl
theorem ja0 : jApp jd5 5 [] = (0, false, jd5) := by
  rw [jApp_eq, jn5]
  exact trip_of (by decide +kernel) (by decide +kernel) (by
    unfold jAppS
    rw [if_neg (by decide +kernel), if_pos (by decide)])
theorem jN0 : names jd0.files = [] := by decide +kernel
theorem jN1 : names jd1.files = [jn 3] := by rw [jn3]; decide +kernel
theorem jN3 : names jd3.files = [jn 3] := by rw [jn3]; decide +kernel
theorem jN4 : names jd4.files = [] := by decide +kernel
theorem jN5 : names jd5.files = [jn 5] := by rw [jn5]; decide +kernel
theorem joff : jd0.off = false ∧ jd1.off = false ∧ jd3.off = false ∧ jd4.off = false ∧ jd5.off = false := by decide +kernel
theorem jst : jd0.starts = 0 ∧ jd1.starts = 0 ∧ jd3.starts = 1 ∧ jd4.starts = 1 ∧ jd5.starts = 1 := by decide +kernel
theorem jr1 : jd1.read (jn 3) = (jt1, 0) := by rw [jn3]; decide +kernel
theorem jr3 : jd3.read (jn 3) = (jt1, 0) := by rw [jn3]; decide +kernel
theorem jr5 : jd5.read (jn 5) = (jt5, 0) := by rw [jn5]; decide +kernel
theorem jcr : jd1.crash [] = (0, jd2) := dpair_of (by decide +kernel) rfl
theorem jsr : jd2.start = (0, jd3) := dpair_of (by decide +kernel) rfl
theorem jrm : jd3.remove (jn 3) = (0, jd4) := by rw [jn3]; exact dpair_of (by decide +kernel) rfl
theorem jlen : jt1.length = 17 ∧ jt5.length = 13 ∧ jb1.length = 9 ∧ jb5.length = 5 := by decide +kernel
theorem jw1 : Frm.whole jt1.length jt1 = ([jb1], jt1.length) := by decide +kernel
theorem jw5 : Frm.whole jt5.length jt5 = ([jb5], jt5.length) := by decide +kernel
theorem jmay : ∀ c ∈ [jc1, jc2], Jou.May c ∧ c.seq < 9223372036854775808 := by decide
theorem jdec1 : Jou.dec jb1 = some [jc1, jc2] := Jou.dec_enc _ jmay
theorem jdec5 : Jou.dec jb5 = some [jc1] := Jou.dec_enc _ (fun c hc => jmay c (by simp at hc; subst hc; simp))
end Go.Proofs.YtcijhhnbhnaiaaaGreatDoor

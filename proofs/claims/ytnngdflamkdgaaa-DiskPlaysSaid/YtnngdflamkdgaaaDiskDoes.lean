/- The chapter's example of a disk. -/
import Derived.Test.YtnngdflamkdgaaaDiskLit
import Derived.Test.YtnngdflamkdgaaaLive
namespace Go.Proofs.Ytnngdflamkdgaaa
open Go.RowKit Go.Maps
open Dsk

section
variable {w0 w : World} {X : Nat → Prop} {v : Value} {d d' : Dk} {r : Int}
end
def q1 : Dk := ((Dk.new 10).append [98] [120, 121, 122]).2
def q2 : Dk := (q1.sync [98]).2
def q3 : Dk := (q2.append [98] [117, 118]).2
def q4 : Dk := (q3.append [97] [49, 50, 51, 52, 53]).2
def q5 : Dk := (q4.append [99] [54]).2
def q6 : Dk := (q5.crash [2, 1]).2
def q7 : Dk := q6.start.2
def q8 : Dk := (q7.failAt 1 [0, 9]).2
def q9 : Dk := (q8.append [98] [113]).2
def q10 : Dk := (q9.rename [98] [97]).2
def q11 : Dk := q10.start.2
theorem qr1 : ((Dk.new 10).append [98] [120, 121, 122]).1 = 0 := by decide +kernel
theorem qr2 : (q1.sync [98]).1 = 0 := by decide +kernel
theorem qr3 : (q2.append [98] [117, 118]).1 = 0 := by decide +kernel
theorem qr4 : (q3.append [97] [49, 50, 51, 52, 53]).1 = 0 := by decide +kernel
theorem qr5 : (q4.append [99] [54]).1 = 50 := by decide +kernel
theorem qr6 : (q5.crash [2, 1]).1 = 0 := by decide +kernel
theorem qr7 : q6.start.1 = 0 := by decide +kernel
theorem qr8 : (q7.failAt 1 [0, 9]).1 = 0 := by decide +kernel
theorem qr9 : (q8.append [98] [113]).1 = 0 := by decide +kernel
theorem qr10 : (q9.rename [98] [97]).1 = 51 := by decide +kernel
theorem qr11 : q10.start.1 = 0 := by decide +kernel
theorem qu : q5.unsynced = [5, 2] := by decide +kernel
theorem qn : names q5.files = [[97], [98]] := by decide +kernel
theorem qs : q5.synced [98] = 3 := by decide +kernel
theorem qd7 : (q7.read [98]).1 = [120, 121, 122, 117] ∧ (q7.read [98]).2 = 0 := by decide +kernel
theorem qd11 : (q11.read [98]).1 = [120, 121, 122, 117, 113] ∧ (q11.read [98]).2 = 0 := by decide +kernel
theorem qst : q11.starts = 2 := by decide +kernel
end Go.Proofs.Ytnngdflamkdgaaa

/- A draft that is written, synced and renamed over a file: the plain law. -/
import Derived.Test.YtnngdflamkdgaaaDiskPlain
namespace Go.Proofs.Ytnngdflamkdgaaa.Dsk
open Go

def nmF : Str := [102, 105, 108, 101]
def nmD : Str := [100, 114, 97, 102, 116]
theorem cutF_full {f : Fl} (h : f.safe = f.data.length) (k : Option Int) : cutF f k = f := by
  have e : stays f k = f.data.length := by unfold stays; omega
  obtain ⟨a, b⟩ := f
  unfold cutF
  rw [e]
  simp at h ⊢
  exact h.symm
theorem append_made {d : Dk} {name s : Str} (h1 : d.off = false) (h2 : Named name) (h3 : d.files.length < 1024) (h4 : total d.files + s.length ≤ d.room) :
    d.append name s = ({ d with files := put d.files name ⟨((get d.files name).getD ⟨[], 0⟩).data ++ s, ((get d.files name).getD ⟨[], 0⟩).safe⟩ } : Dk).change (put d.files name ⟨((get d.files name).getD ⟨[], 0⟩).data ++ s, ((get d.files name).getD ⟨[], 0⟩).safe⟩) := by
  unfold Dk.append
  rw [if_neg (by simp [h1]), if_neg (by simp [h2]), if_neg (by omega)]
def sw (off : Bool) (files : Files) (fl : Option Int) (keep : List Int) (starts : Int) : Dk := ⟨3000, starts, off, files, fl, keep⟩
theorem named_F : Named nmF := by decide
theorem named_D : Named nmD := by decide
section
variable (A B : Str) (keep : List Int)
theorem sw1 (hA : A.length ≤ 1000) : (Dk.new 3000).append nmF A = (0, sw false [(nmF, ⟨A, 0⟩)] none [] 0) := by
  rw [append_made rfl named_F (by decide) (by show 0 + A.length ≤ 3000; omega)]
  rfl
theorem sw2 : (sw false [(nmF, ⟨A, 0⟩)] none [] 0).sync nmF = (0, sw false [(nmF, ⟨A, A.length⟩)] none [] 0) := rfl
theorem sw3 (k : Int) (hk : 0 ≤ k) : (sw false [(nmF, ⟨A, A.length⟩)] none [] 0).failAt k keep = (0, sw false [(nmF, ⟨A, A.length⟩)] (some k) keep 0) := by
  unfold Dk.failAt
  rw [if_neg (by simp [sw]), if_neg (by omega)]
  rfl
theorem swapCrash (b : Nat) (fl : Option Int) : (sw false [(nmD, ⟨B, b⟩), (nmF, ⟨A, A.length⟩)] fl keep 0).crashed keep = sw true [(nmD, cutF ⟨B, b⟩ keep[0]?), (nmF, ⟨A, A.length⟩)] none keep 0 := by
  unfold Dk.crashed sw
  simp only [cutL]
  rw [cutF_full (f := ⟨A, A.length⟩) rfl]
theorem sw4 (hA : A.length ≤ 1000) (hB : B.length ≤ 1000) (k : Int) : (sw false [(nmF, ⟨A, A.length⟩)] (some k) keep 0).append nmD B =
    if k ≤ 0 then (51, sw true [(nmD, cutF ⟨B, 0⟩ keep[0]?), (nmF, ⟨A, A.length⟩)] none keep 0) else (0, sw false [(nmD, ⟨B, 0⟩), (nmF, ⟨A, A.length⟩)] (some (k - 1)) keep 0) := by
  rw [append_made rfl named_D (by show 1 < 1024; omega) (by show A.length + 0 + B.length ≤ 3000; omega)]
  rw [← swapCrash A B keep 0 (some k)]
  rfl
theorem sw5 (k : Int) : (sw false [(nmD, ⟨B, 0⟩), (nmF, ⟨A, A.length⟩)] (some k) keep 0).sync nmD =
    if k ≤ 0 then (51, sw true [(nmD, cutF ⟨B, 0⟩ keep[0]?), (nmF, ⟨A, A.length⟩)] none keep 0) else (0, sw false [(nmD, ⟨B, B.length⟩), (nmF, ⟨A, A.length⟩)] (some (k - 1)) keep 0) := by
  rw [← swapCrash A B keep 0 (some k)]
  rfl
theorem sw6 (k : Int) : (sw false [(nmD, ⟨B, B.length⟩), (nmF, ⟨A, A.length⟩)] (some k) keep 0).rename nmD nmF =
    if k ≤ 0 then (51, sw true [(nmD, cutF ⟨B, B.length⟩ keep[0]?), (nmF, ⟨A, A.length⟩)] none keep 0) else (0, sw false [(nmF, ⟨B, B.length⟩)] (some (k - 1)) keep 0) := by
  rw [← swapCrash A B keep B.length (some k)]
  rfl
theorem sw7 (f : Fl) : (sw true [(nmD, f), (nmF, ⟨A, A.length⟩)] none keep 0).start = (0, sw false [(nmD, f), (nmF, ⟨A, A.length⟩)] none keep 1) := rfl
theorem sw8 (f : Fl) : (sw false [(nmD, f), (nmF, ⟨A, A.length⟩)] none keep 1).read nmF = (A, 0) := rfl
theorem sw9 (k : Option Int) : (sw false [(nmF, ⟨B, B.length⟩)] k keep 0).read nmF = (B, 0) := rfl
end
end Go.Proofs.Ytnngdflamkdgaaa.Dsk

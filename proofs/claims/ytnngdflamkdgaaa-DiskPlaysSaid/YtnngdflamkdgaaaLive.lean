/- A disk that a call made, and 'done'. -/
import Derived.Test.YtnngdflamkdgaaaLiveB
import Derived.Test.YtnngdflamkdgaaaActs2
namespace Go.Proofs.Ytnngdflamkdgaaa
open Go.RowKit Go.Maps
open Dsk

section
variable {w0 w w' : World} {X : Nat → Prop} {v : Value} {d : Dk}
theorem Live.done (h : Live w0 X w v d) (a : ActS) (ha : ActOk w w0.heap.size a) (hkl : a.keep.length ≤ 1099511627776) :
    Calls Try.prog 21 #[v, actV a] w fun e w' => e = .returned (.int .i64 (stepA d a).1) ∧ Live w0 X w' v (stepA d a).2 ∧ Keeps X w w' :=
  h.of fun _ hd hF => done_at hd (fun k hk => (hF k hk).1) a ha hkl
end
end Go.Proofs.Ytnngdflamkdgaaa

/- strings.IndexByte, walked down to the one function without a body. -/
import Derived.Test.YtkgleilcngnpfaaLib
import Derived.Lib.Bytealg
namespace Go.Proofs.Ytkgleilcngnpfaa
open Go.RowKit

set_option maxHeartbeats 400000 in
theorem indexByte_any (s : ByteArray) (c : UInt8) (w : World) :
    Calls Try.prog 33 #[.string s, .int .u8 c.toNat] w fun e w' => e = .returned (.int .i64 (Lib.indexByte s.data.toList c)) ∧ Below w.heap.size w w' := by
  go_enter Try.func33, Try.ntmps33
  go_wp2
  rw [run_callFunc_extern Try.func41 (by kernel_rfl) (by kernel_rfl) (by kernel_rfl) (e := Extern.BytealgIndexByte.indexByte) (by kernel_rfl), Lib.run_indexByteString]
  simp only [Result.andThen]
  rw [Oper.upon_value]
  go_wp2
  go_ret
  refine ⟨?_, Below.refl _ _⟩
  simp
end Go.Proofs.Ytkgleilcngnpfaa

/- What the rows say of the library's variables. -/
import Derived.Test.YtdacanghbepjpaaGreatDoorM7
import Derived.Test.YtdacanghbepjpaaGreatDoorRows
import Derived.LaidMore
import Derived.LaidHandle
import Derived.LaidSub
import Derived.Stop.LaidErr
namespace Go.Proofs.YtdacanghbepjpaaGreatDoor
set_option maxRecDepth 100000
open Go.RowKit Go.ChangeShapes
theorem es_star : "*" ++ "errors.errorString" = "*errors.errorString" := by decide
theorem es_row (u : TypeId) (h : Tryz.prog.typeName? 3 u = some "*errors.errorString") : u = 285 :=
  typeName_ptr_named (nm := "errors.errorString") (by rw [es_star]; kernel_rfl) (by kernel_rfl) (by decide) u (by rw [es_star]; exact h)
theorem hl_env {W : World} (h : laidMetH Tryz.prog Rows.daemonNoneRow.laid W) : LEnv W := by
  refine ⟨?_, ?_⟩
  · have h1 := ((laidMetH_iff.1 h).1).filter fun x => x.1 == "internal/strconv.uint64pow10"
    have e : ((Rows.daemonNoneRow.laid.filter fun x => x.2.handleName?.isNone).filter fun x => x.1 == "internal/strconv.uint64pow10") = [("internal/strconv.uint64pow10", Lib.tabData .u64 Lib.pow10Tab)] := by kernel_rfl
    rw [e] at h1
    exact Lib.tabIs_of_head (g := 0) (t := 264) (e := 216) (n := 20) (by kernel_rfl) (by kernel_rfl) (by kernel_rfl) (by kernel_rfl) (by kernel_rfl) (by kernel_rfl) h1
  · have h1 := ((laidMetH_iff.1 h).1).filter fun x => x.1 == "strconv.ErrSyntax"
    have e : ((Rows.daemonNoneRow.laid.filter fun x => x.2.handleName?.isNone).filter fun x => x.1 == "strconv.ErrSyntax") = [("strconv.ErrSyntax", .iface "*errors.errorString" (.ptr (.agg [.lit (.string [105, 110, 118, 97, 108, 105, 100, 32, 115, 121, 110, 116, 97, 120])])))] := by kernel_rfl
    rw [e] at h1
    obtain ⟨a, s, hv, _⟩ := laid_sentinel (g := 1) (ti := 171) (tp := 285) (te := 287) (ts := 9) h1 (by kernel_rfl) (by kernel_rfl) Tryz.underlying171 es_row (by kernel_rfl) Tryz.underlying287 rfl rfl (by kernel_rfl) (by kernel_rfl) (by kernel_rfl)
    exact ⟨_, _, hv⟩
end Go.Proofs.YtdacanghbepjpaaGreatDoor

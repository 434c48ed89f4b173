/- The table of powers of ten, from the row's own condition. -/
import Derived.Test.YtcijhhnbhnaiaaaGreatDoorJouPlays
import Derived.LaidMore
import Derived.LaidHandle
import Derived.LaidSub
namespace Go.Proofs.YtcijhhnbhnaiaaaGreatDoor
set_option maxRecDepth 100000
theorem pow_tab {W : World} (h : laidMetH Tryz.prog Rows.journalPlaysRow.laid W) : PowTab W := by
  have h1 := ((laidMetH_iff.1 h).1).filter fun x => x.1 == "internal/strconv.uint64pow10"
  have e : ((Rows.journalPlaysRow.laid.filter fun x => x.2.handleName?.isNone).filter fun x => x.1 == "internal/strconv.uint64pow10") = [("internal/strconv.uint64pow10", Lib.tabData .u64 Lib.pow10Tab)] := by kernel_rfl
  rw [e] at h1
  exact Lib.tabIs_of_head (g := 2) (t := 187) (e := 116) (n := 20) (by kernel_rfl) (by kernel_rfl) (by kernel_rfl) (by kernel_rfl) (by kernel_rfl) (by kernel_rfl) h1
end Go.Proofs.YtcijhhnbhnaiaaaGreatDoor

/- A disk that is none: what its functions answer. -/
import Derived.Test.YtdacanghbepjpaaGreatDoorM4
namespace Go.Proofs.YtdacanghbepjpaaGreatDoor
set_option maxRecDepth 100000
open Go.RowKit Go.Maps
open Dsk
def NilD (w:World) (v:Value):Prop:=v=.pointer none∨∃ b,v=.pointer (some ⟨b,0,none⟩)∧b<w.heap.size∧w.cell? ⟨b,3,none⟩=some (.map none)
theorem NilD.below {w w':World} {v:Value} (h:NilD w v) (x:Below w.heap.size w w'):NilD w' v:=by
 rcases h with h | ⟨b,e,hb,hc⟩
 · exact .inl h
 · exact .inr ⟨b,e,Nat.lt_of_lt_of_le hb x.size,(x.cell (p:=⟨b,3,none⟩) hb).trans hc⟩
theorem files_neq_nil (w:World):(binOp .neq 154 (.map none) (.map none)).run Tryz.prog w=.ok (.bool false) w:=run_neq_map_nil w _ _ _ none under_files
section
variable {w:World} {v:Value}
theorem is_nil (h:NilD w v):Calls Tryz.prog 158 #[v] w fun e w' => e=.returned (.bool false)∧w=w':=by
 rcases h with rfl | ⟨b,rfl,hb,hc⟩
 · go_enter Tryz.func158,Tryz.ntmps158
   go_wp2_with fail
   go_ret
   exact ⟨rfl,rfl⟩
 · have hmn:=files_neq_nil w
   go_enter Tryz.func158,Tryz.ntmps158
   go_wp2_with fail
   go_ret
   exact ⟨rfl,rfl⟩
theorem runs_nil (h:NilD w v):Calls Tryz.prog 99 #[v] w fun e w' => e=.returned (.int .i64 1)∧w=w':=by
 have hi:=is_nil h
 clear h
 go_enter Tryz.func99,Tryz.ntmps99
 go_wp2_with (go_at_call 158;refine hi.mono ?_;rintro e w' ⟨rfl,rfl⟩)
 go_ret
 exact ⟨rfl,rfl⟩
theorem append_nil (h:NilD w v) (name s:ByteArray):Calls Tryz.prog 79 #[v,.string name,.string s] w fun e w' => e=.returned (.int .i64 1)∧w=w':=by
 have hi:=runs_nil h
 clear h
 go_enter Tryz.func79,Tryz.ntmps79
 go_wp2_with (go_at_call 99;refine hi.mono ?_;rintro e w' ⟨rfl,rfl⟩)
 go_ret
 exact ⟨rfl,rfl⟩
end
end Go.Proofs.YtdacanghbepjpaaGreatDoor

/- Edits' bytes: a text's, a row's; is a reader at its end; walked. -/
import Derived.Test.YtdacanghbepjpaaGreatDoorEdRead
namespace Go.Proofs.YtdacanghbepjpaaGreatDoor
set_option linter.unusedSimpArgs false
set_option linter.unusedVariables false
set_option maxRecDepth 100000
open Go.RowKit
theorem cat_r (a:List UInt8) (b:ByteArray):(⟨a.toArray⟩:ByteArray)++b=⟨(a++b.data.toList).toArray⟩:=by
 apply bytes_ext
 simp
theorem size_l (a:List UInt8):(⟨a.toArray⟩:ByteArray).size=a.length:=List.size_toArray
theorem pn_len {n:Int} (h:n<9223372036854775808):(Ed.pn n).length≤9:=by
 unfold Ed.pn Var.putI
 split
 · simp
 · exact Var.put_len_le (by rw [Var.pow9];omega)
def pnB (n:Int):ByteArray:=⟨(Ed.pn n).toArray⟩
theorem pnB_size {n:Int} (h:n<9223372036854775808):(pnB n).size≤9:=by unfold pnB;rw [size_l];exact pn_len h
theorem putP_any (n:Int) (w:World) (h0:0≤n) (h:n<9223372036854775808) :
  Calls Tryz.prog 131 #[.int .i64 n] w fun e w' => e=.returned (.string (pnB n))∧Below w.heap.size w w':=by
 have e:Ed.pn n=Var.putI n:=by unfold Ed.pn;rw [Int.max_eq_left h0]
 unfold pnB
 rw [e]
 exact put_any n w ⟨by omega,by omega⟩
def encTB (t:ByteArray):ByteArray:=⟨(Ed.encT t.data.toList).toArray⟩
theorem list_len' (s:ByteArray):s.data.toList.length=s.size:=by simp
theorem putText_any (t:ByteArray) (w:World) (ht:t.size≤1000000) :
  Calls Tryz.prog 133 #[.string t] w fun e w' => e=.returned (.string (encTB t))∧Below w.heap.size w w':=by
 have hp:=putP_any t.size w (by omega) (by omega)
 have hs:=pnB_size (n:=t.size) (by omega)
 have he:pnB t.size++t=encTB t:=by
  unfold pnB encTB Ed.encT
  rw [cat_r,list_len']
 obtain ⟨P,hP⟩:∃ P,P=pnB t.size:=⟨_,rfl⟩
 rw [← hP] at hp hs he
 have HP:=Lib.hid hp
 have HE:=Lib.hid he
 clear hp hP he
 go_enter Tryz.func133,Tryz.ntmps133
 go_wp2_with fail
 refine HP.out.mono ?_
 rintro e w1 ⟨rfl,hb⟩
 go_wp2_with fail
 go_ret
 rw [HE.out]
 exact ⟨rfl,hb⟩
theorem encT_len (t:ByteArray) (h:t.size≤1000000):(encTB t).size≤9+t.size:=by
 unfold encTB Ed.encT
 rw [size_l,List.length_append,list_len']
 have:=pn_len (n:=t.size) (by omega)
 omega
end Go.Proofs.YtdacanghbepjpaaGreatDoor

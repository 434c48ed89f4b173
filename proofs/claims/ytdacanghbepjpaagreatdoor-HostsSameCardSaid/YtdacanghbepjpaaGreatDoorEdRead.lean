/- A reader of edits' bytes: a number, a text, walked. -/
import Derived.Test.YtdacanghbepjpaaGreatDoorM1
import Derived.Test.YtdacanghbepjpaaGreatDoorVar
import Derived.Test.YtdacanghbepjpaaGreatDoorM3
import Derived.Deep.QuietTactic
import Derived.BigQuiet
namespace Go.Proofs.YtdacanghbepjpaaGreatDoor
set_option linter.unusedSimpArgs false
set_option linter.unusedVariables false
set_option maxRecDepth 100000
open Go.RowKit
theorem get_le {s:ByteArray} {p n e:Nat} (h:Var.get s.data.toList p=some (n,e)):e≤s.size∧p<e∧n<9223372036854775808:=by
 obtain ⟨h1,h2,_,_,h5⟩:=Var.get_back h
 rw [Var.pow9] at h5
 exact ⟨by simpa using h1,h2,h5⟩
def txtE (g:Option (List UInt8×Nat)):Ending:=match g with
 | none => .returned (.tuple #[.string ⟨#[]⟩,.int .i64 0,.bool false])
 | some x => .returned (.tuple #[.string ⟨x.1.toArray⟩,.int .i64 x.2,.bool true])
theorem extract_at (s:ByteArray) (a b:Nat):s.extract a b=⟨((s.data.toList.drop a).take (b-a)).toArray⟩:=by
 apply bytes_ext
 rw [extract_list]
theorem getText_any (s:ByteArray) (p:Nat) (w:World) (hs:s.size≤maxLen) (hp:p≤9223372036854775807) :
  Calls Tryz.prog 92 #[.string s,.int .i64 p] w fun e w' => e=txtE (Ed.txt s.data.toList p)∧w=w':=by
 have HG:=Lib.hid (get_any s p w hs hp)
 have hl:s.data.toList.length=s.size:=by simp
 have hsm:s.size≤9223372036854775807:=by unfold maxLen at hs;omega
 cases hg:Var.get s.data.toList p with
 | none =>
  have ht:Ed.txt s.data.toList p=none:=by unfold Ed.txt;rw [hg]
  rw [ht]
  rw [hg] at HG
  unfold gotE at HG
  clear hg ht hl
  go_enter Tryz.func92,Tryz.ntmps92
  go_wp2_with fail
  refine HG.out.mono ?_
  rintro e w' ⟨rfl,rfl⟩
  go_wp2_with fail
  go_ret3
  exact ⟨rfl,rfl⟩
 | some x =>
  obtain ⟨n,q⟩:=x
  obtain ⟨h1,h2,h3⟩:=get_le hg
  rw [hg] at HG
  unfold gotE at HG
  by_cases hn:n≤s.size-q
  · have ht:Ed.txt s.data.toList p=some ((s.data.toList.drop q).take n,q+n):=by unfold Ed.txt;rw [hg];simp only;rw [if_pos (by omega)]
    rw [ht]
    have hx:s.extract q (q+n)=⟨((s.data.toList.drop q).take n).toArray⟩:=by rw [extract_at];congr 2;congr 1;omega
    have n1:¬ ((s.size:Int)-q<n):=by omega
    have n2:(0:Int)≤q:=by omega
    have n3:(q:Int)+n≤s.size:=by omega
    have HX:=Lib.hid hx
    clear hg ht hl hx
    go_enter Tryz.func92,Tryz.ntmps92
    go_wp2_with fail
    refine HG.out.mono ?_
    rintro e w' ⟨rfl,rfl⟩
    try simp only
    go_wp2_with fail
    rw [HX.out]
    go_ret3
    exact ⟨by rw [show (q:Int)+n=((q+n:Nat):Int) by omega];rfl,rfl⟩
  · have ht:Ed.txt s.data.toList p=none:=by unfold Ed.txt;rw [hg];simp only;rw [if_neg (by omega)]
    rw [ht]
    have n1:((s.size:Int)-q<n):=by omega
    clear hg ht hl
    go_enter Tryz.func92,Tryz.ntmps92
    go_wp2_with fail
    refine HG.out.mono ?_
    rintro e w' ⟨rfl,rfl⟩
    try simp only
    go_wp2_with fail
    go_ret3
    exact ⟨rfl,rfl⟩
end Go.Proofs.YtdacanghbepjpaaGreatDoor

/- A disk that is none: what its functions answer. A disk's acts beside a world's own blocks; a block of four cells. The table of powers of ten: what a world keeps of it. strings.Builder's copyCheck and WriteString at this program (after the kit's walks of them: here the panic of a copied builder has no operation). A host's log: names and numbers of its files; a segment's small functions: walked. A host's log: whether a file is a segment, walked. A host's log: does it run; what an act came to; the last segment; its numbers: walked. A host's log: what an act came to; the last segment; its numbers: walked. A host's log: its first number, its end, how many segments: walked. A host's log: how many records of a segment are sure: walked. A host's log: how many records are sure: walked. A host's log opened in memory; made sure: walked. -/
import Derived.Test.YtdacanghbepjpaaGreatDoorM4
import Derived.Test.YtdacanghbepjpaaGreatDoorM2
import Derived.Lib.LaidTab
import Derived.MakeChecks
import Derived.Stop.LaidErr
import Derived.Lib.AppendIntMem
import Derived.Lib.Builder
import Derived.Lib.AppendStr
import Derived.Laws.Externs
import Derived.Test.YtdacanghbepjpaaGreatDoorM5
import Derived.Test.YtdacanghbepjpaaGreatDoorHlShelf
import Derived.Test.YtdacanghbepjpaaGreatDoorSink2
import Derived.Test.YtdacanghbepjpaaGreatDoorG1
namespace Go.Proofs.YtdacanghbepjpaaGreatDoor
set_option maxRecDepth 100000
open Go.RowKit Go.Maps
open Dsk
def NilD (w:World) (v:Value):Prop:=v=.pointer none∨∃ b,v=.pointer (some ⟨b,0,none⟩)∧b<w.heap.size∧w.cell? ⟨b,3,none⟩=some (.map none)
theorem files_neq_nil (w:World):(binOp .neq 154 (.map none) (.map none)).run Tryz.prog w=.ok (.bool false) w:=run_neq_map_nil w _ _ _ none under_files
section
variable {w:World} {v:Value}
theorem is_nil (h:NilD w v):Calls Tryz.prog 158 #[v] w fun e w' => e=.returned (.bool false)∧w=w':=by
 rcases h with rfl | ⟨b,rfl,hb,hc⟩
 · go_enter Tryz.func158,Tryz.ntmps158
   go_wp2_with fail
   go_ret
   exact ⟨rfl,rfl⟩
 · have hmn:=files_neq_nil w
   go_enter Tryz.func158,Tryz.ntmps158
   go_wp2_with fail
   go_ret
   exact ⟨rfl,rfl⟩
theorem runs_nil (h:NilD w v):Calls Tryz.prog 99 #[v] w fun e w' => e=.returned (.int .i64 1)∧w=w':=by
 have hi:=is_nil h
 clear h
 go_enter Tryz.func99,Tryz.ntmps99
 go_wp2_with (go_at_call 158;refine hi.mono ?_;rintro e w' ⟨rfl,rfl⟩)
 go_ret
 exact ⟨rfl,rfl⟩
theorem append_nil (h:NilD w v) (name s:ByteArray):Calls Tryz.prog 79 #[v,.string name,.string s] w fun e w' => e=.returned (.int .i64 1)∧w=w':=by
 have hi:=runs_nil h
 clear h
 go_enter Tryz.func79,Tryz.ntmps79
 go_wp2_with (go_at_call 99;refine hi.mono ?_;rintro e w' ⟨rfl,rfl⟩)
 go_ret
 exact ⟨rfl,rfl⟩
end
end Go.Proofs.YtdacanghbepjpaaGreatDoor
namespace Go.Proofs.YtdacanghbepjpaaGreatDoor
set_option linter.unusedSimpArgs false
set_option linter.unusedVariables false
set_option maxRecDepth 100000
open Go.RowKit Go.Maps
open Dsk
theorem blk4 {w:World} {m:Nat} {t:TypeId} {a b c e:Value} (h:Blk w m t #[a,b,c,e]) :
  (w.cell? ⟨m,0,none⟩=some a∧w.cell? ⟨m,1,none⟩=some b∧w.cell? ⟨m,2,none⟩=some c∧w.cell? ⟨m,3,none⟩=some e):=⟨h.cell 0,h.cell 1,h.cell 2,h.cell 3⟩
section
variable {w0 w w':World} {X S:Nat→Prop} {v:Value} {d d':Dk} {r:Int}
theorem Live.chg (h:Live w0 X w v d) (x:Chg S w w') (hX:∀ k,S k→X k∧w0.heap.size≤k):Live w0 X w' v d:=by
 obtain ⟨F,h1,h2,h3,h4⟩:=h
 exact ⟨F,h1.chg x (fun k hk hs => (h2 k hk).2 (hX k hs).1),h2,fun k hk => Nat.lt_of_lt_of_le (h3 k hk) x.size,h4.trans (x.below h4.size (fun k hk hs => by have:=(hX k hs).2;omega))⟩
theorem Live.removeK (h:Live w0 X w v d) (name:ByteArray) {n:Str} (hn:name.data.toList=n) (he:d.remove n=(r,d')) (h1:name.size≤1000) :
  Calls Tryz.prog 146 #[v,.string name] w fun e w' => e=.returned (.int .i64 r)∧Live w0 X w' v d'∧Keeps X w w':=by
 subst hn
 refine (h.remove name (lit_le h1)).mono fun _ _ x => ?_
 rw [he] at x
 exact x
theorem Live.appendK (h:Live w0 X w v d) (name s:ByteArray) {n t:Str} (hn:name.data.toList=n) (ht:s.data.toList=t) (he:d.append n t=(r,d')) (h1:name.size≤1000) (h2:s.size≤maxLen) :
  Calls Tryz.prog 79 #[v,.string name,.string s] w fun e w' => e=.returned (.int .i64 r)∧Live w0 X w' v d'∧Keeps X w w':=by
 subst hn ht
 refine (h.append name s (lit_le h1) h2).mono fun _ _ x => ?_
 rw [he] at x
 exact x
theorem Live.syncK (h:Live w0 X w v d) (name:ByteArray) {n:Str} (hn:name.data.toList=n) (he:d.sync n=(r,d')) (h1:name.size≤1000) :
  Calls Tryz.prog 84 #[v,.string name] w fun e w' => e=.returned (.int .i64 r)∧Live w0 X w' v d'∧Keeps X w w':=by
 subst hn
 refine (h.sync name (lit_le h1)).mono fun _ _ x => ?_
 rw [he] at x
 exact x
theorem chg_of_grown {own:Option Nat} (hg:w.grownBy w' own):Chg (fun k => own=some k) w w':=⟨hg.os,hg.tape,hg.output,hg.size,fun k hk hne => hg.block k hk (fun e => hne e.symm)⟩
theorem Live.addChg (h:Live w0 X w v d) (x:Chg S w w') (hX:∀ k,S k→X k∧w0.heap.size≤k):Live w0 (Also X w w') w' v d:=by
 obtain ⟨F,h1,h2,h3,h4⟩:=h
 refine ⟨F,h1.chg x (fun k hk hs => (h2 k hk).2 (hX k hs).1),fun k hk => ⟨(h2 k hk).1,fun hx => ?_⟩,fun k hk => ?_,h4.trans (x.below h4.size (fun k hk hs => by have:=(hX k hs).2;omega))⟩
 · rcases hx with hx | hx
   · exact (h2 k hk).2 hx
   · have:=h1.lt k hk;omega
 · rcases hk with hk | hk
   · exact Nat.lt_of_lt_of_le (h3 k hk) x.size
   · exact hk.2
end
end Go.Proofs.YtdacanghbepjpaaGreatDoor
namespace Go.Proofs.YtdacanghbepjpaaGreatDoor
set_option linter.unusedSimpArgs false
set_option linter.unusedVariables false
set_option maxRecDepth 100000
open Go.RowKit
abbrev PowTab (w : World) : Prop := Lib.TabIs Tryz.prog w "internal/strconv.uint64pow10" .u64 Lib.pow10Tab
theorem PowTab.below {w w':World} (h:PowTab w) (x:Below w.heap.size w w'):PowTab w':=by
 have hg : Tryz.prog.globalNamed "internal/strconv.uint64pow10" = some 0 := by kernel_rfl
 unfold PowTab Lib.TabIs World.var? at h ⊢
 rw [hg] at h ⊢
 simp only [Option.bind_some] at h ⊢
 have hlt:0<w.heap.size:=by
  apply Classical.byContradiction
  intro hge
  rw [Array.getElem?_eq_none (by omega)] at h
  cases h
 rw [x.block _ hlt]
 exact h
end Go.Proofs.YtdacanghbepjpaaGreatDoor
namespace Go.Proofs.YtdacanghbepjpaaGreatDoor
set_option linter.unusedSimpArgs false
set_option linter.unusedVariables false
set_option maxRecDepth 100000
open Go.RowKit
theorem build_size:(Tryz.prog.info? 164).map (·.size)=some 2:=by kernel_rfl
theorem build_lies:liesAt Tryz.prog Tryz.prog.depth 164 (2 / Tryz.prog.cellsOf 164) 0 164 1=true:=by kernel_rfl
theorem build_ptr:Tryz.prog.underlying 162=some (.pointer 164):=by kernel_rfl
theorem build_unsafe:Tryz.prog.underlying 231=some .unsafePointer:=by kernel_rfl
theorem Tryz.info_byte':(Tryz.prog.info? 5).map (fun i => (i.zero,i.size,i.bytes))=some (some (.int .u8 0),1,1):=by kernel_rfl
theorem under_bytes':Tryz.prog.underlying 78=some (.slice 5):=by kernel_rfl
theorem under_str':Tryz.prog.underlying 9=some .string:=by kernel_rfl
abbrev IsB (B b:Nat) (bs:List Value) (w:World):Prop:=Lib.IsBuilder 164 5 B b bs w
set_option maxHeartbeats 1000000 in
theorem copyCheck_used (b:Nat) (w:World) (h0:w.cell? ⟨b,0,none⟩=some (.pointer (some ⟨b,0,none⟩))) :
  Calls Tryz.prog 174 #[.pointer (some ⟨b,0,none⟩)] w fun e w' => e=.returned (.tuple #[])∧w'=w:=by
 obtain ⟨j,hj,_⟩:=Option.map_eq_some_iff.1 build_size
 have hq:=Lib.run_neq_ptr_same (P:=Tryz.prog) w ⟨b,0,none⟩ build_ptr hj
 clear hj
 go_enter Tryz.func174,Tryz.ntmps174
 go_wp2_with fail
 go_end0
 exact ⟨rfl,rfl⟩
set_option maxHeartbeats 1000000 in
theorem copyCheck_fresh (b:Nat) (w:World) (h0:w.cell? ⟨b,0,none⟩=some (.pointer none)) (hsh:w.shape? b=some (164,2)) (hfz:w.frozen? ⟨b,0,none⟩=false) :
  Calls Tryz.prog 174 #[.pointer (some ⟨b,0,none⟩)] w fun e w' => e=.returned (.tuple #[])∧w'=w.setCell ⟨b,0,none⟩ (.pointer (some ⟨b,0,none⟩)):=by
 obtain ⟨j,hj,hjs⟩:=Option.map_eq_some_iff.1 build_size
 have q1:=Lib.run_to_unsafe (P:=Tryz.prog) w ⟨b,0,none⟩ build_ptr build_unsafe hj (by rw [hjs];decide) hsh (Nat.zero_lt_succ 1)
 have q2:=Lib.run_from_unsafe (P:=Tryz.prog) w ⟨b,0,none⟩ build_unsafe build_ptr hj hsh build_lies
 have q3:(callFunc 200 #[.pointer (some ⟨b,0,none⟩)]).run Tryz.prog w=.ok (.value (.pointer (some ⟨b,0,none⟩))) w:=by
  rw [run_callFunc_extern Tryz.func200 (by kernel_rfl) (by kernel_rfl) (by kernel_rfl) (e:=Extern.AbiNoEscape.same) (by kernel_rfl),Lib.run_noEscape]
  rfl
 clear hj hjs
 go_enter Tryz.func174,Tryz.ntmps174
 go_wp2_with fail
 go_end0
 exact ⟨rfl,rfl⟩
theorem copyCheck_any (B b:Nat) (bs:List Value) (w:World) (h:IsB B b bs w) :
  Calls Tryz.prog 174 #[.pointer (some ⟨b,0,none⟩)] w fun e w' => e=.returned (.tuple #[])∧(Lib.BuilderAt 164 5 B b (.pointer (some ⟨b,0,none⟩)) bs w'∧Below B w w')∧Chg (fun k => k=b) w w'∧∀ p v0,Blk w b 164 #[p,v0]→∃ p',Blk w' b 164 #[p',v0]:=by
 rcases h with h | h
 · refine (copyCheck_fresh b w h.cell0 h.shape h.frozen0).mono ?_
   rintro e w' ⟨rfl,rfl⟩
   exact ⟨rfl,⟨h.used _,(Below.refl B w).setCell (p:=⟨b,0,none⟩) h.1 _⟩,(Chg.refl _ _).setCell (S:=fun k => k=b) (p:=⟨b,0,none⟩) (fun _ => rfl) _,fun p v0 hb => ⟨_,hb.set 0 _⟩⟩
 · refine (copyCheck_used b w h.cell0).mono ?_
   rintro e w' ⟨rfl,rfl⟩
   exact ⟨rfl,⟨h,Below.refl B _⟩,Chg.refl _ _,fun p v0 hb => ⟨p,hb⟩⟩
theorem Chg.grown' {w w':World} {row:Option Nat} (h:w.grownBy w' row):Chg (fun k => row=some k) w w' :=
 ⟨h.os,h.tape,h.output,h.size,fun i hi hs => h.block i hi (fun e => hs e.symm)⟩
set_option maxHeartbeats 2000000 in
theorem writeString_any (B b:Nat) (bs:List Value) (s:ByteArray) (w:World) (h:IsB B b bs w) (hlen:bs.length+s.size≤140737488355328) (hBw:B≤w.heap.size) :
  Calls Tryz.prog 130 #[.pointer (some ⟨b,0,none⟩),.string s] w fun e w' => e=.returned (.tuple #[.int .i64 s.size,.nilIface])∧(Lib.BuilderAt 164 5 B b (.pointer (some ⟨b,0,none⟩)) (bs++Lib.strCells s) w'∧Below B w w')∧∃ U:Nat→Prop,(∀ q,b≠q→(∀ p v,w.heap[b]?=some (.cells #[p,v] 164 (0,0))→v.ownBlock≠some q)→¬ U q)∧Chg U w w':=by
 obtain ⟨i0,hi,hz0,hz1,hz2⟩:=info_parts Tryz.info_byte'
 have HC:=Lib.hid (copyCheck_any B b bs w h)
 have HH:=Lib.hid h
 clear h
 go_enter Tryz.func130,Tryz.ntmps130
 go_wp2_with fail
 refine HC.out.mono ?_
 rintro e w1 ⟨rfl,⟨h1,hb1⟩,hch,hkv⟩
 have HCH:=Lib.hid hch
 clear hch
 obtain ⟨hB,v,hbk,hown,hne⟩:=h1
 have c0:w1.cell? ⟨b,0,none⟩=some (.pointer (some ⟨b,0,none⟩)):=by rw [Lib.cell_of_heap hbk];rfl
 have c1:w1.cell? ⟨b,1,none⟩=some v:=by rw [Lib.cell_of_heap hbk];rfl
 have HV:=Lib.hid (show ∀ p v0,w.heap[b]?=some (.cells #[p,v0] 164 (0,0))→v0=v from fun p v0 hv0 => by
  obtain ⟨p',hp'⟩:=hkv p v0 hv0
  have e:=Option.some.inj (hp'.symm.trans hbk)
  injection e with e1 _ _
  have e2:p'=.pointer (some ⟨b,0,none⟩)∧v0=v:=by simpa using e1
  exact e2.2)
 clear hkv
 have Hbk:=Lib.hid hbk
 have Hown:=Lib.hid hown
 have Hb1:=Lib.hid hb1
 clear hbk hown hb1
 go_wp2_with (at_builtin;refine Lib.wpList_append_own_string _ rfl _ _ 78 9 rfl B 5 i0 under_bytes' under_str' hi hz0 hz1 hz2 _ _ _ rfl Hown.out s rfl ?c3 ?c4 ?c5 ?_)
 case c3 => unfold maxLen;omega
 case c4 => omega
 case c5 => have:=Hb1.out.size;omega
 intro v' w2 hown' hgrow _
 have hbk:=Hbk.out
 have hlt:b<w1.heap.size:=by
  rcases Nat.lt_or_ge b w1.heap.size with h' | h'
  · exact h'
  · simp [Array.getElem?_eq_none h'] at hbk
 have hb2:w2.heap[b]?=some (.cells #[.pointer (some ⟨b,0,none⟩),v] 164 (0,0)):=by
  rw [hgrow.block b hlt (fun e => hne e.symm)]
  exact hbk
 have d0:w2.cell? ⟨b,0,none⟩=some (.pointer (some ⟨b,0,none⟩)):=by rw [Lib.cell_of_heap hb2];rfl
 have d1:w2.cell? ⟨b,1,none⟩=some v:=by rw [Lib.cell_of_heap hb2];rfl
 have f1:w2.frozen? ⟨b,1,none⟩=false:=Lib.frozen_of_heap hb2 1
 have Hown':=Lib.hid hown'
 have Hgrow:=Lib.hid hgrow
 have Hb2:=Lib.hid hb2
 obtain ⟨ao,n',cap,rfl⟩:∃ ao n' cap,v'=.slice ao n' cap:=by
  rcases hown'.2 with ⟨hv,_⟩ | ⟨g,cap,cur,hv,_⟩
  · exact ⟨_,_,_,hv⟩
  · exact ⟨_,_,_,hv⟩
 clear hown' hgrow hb2 hbk c0 c1
 go_wp2_with fail
 go_ret2
 refine ⟨rfl,⟨?_,?_⟩,fun k => k=b∨v.ownBlock=some k,fun q h1 h2 e => ?_,?_⟩
 · exact Lib.BuilderAt.put (T:=164) (e:=5) hB Hb2.out (bs':=bs++Lib.strCells s) (by simpa [Lib.strCells_length] using Hown'.out) (by decide)
 · exact (Hb1.out.grown Hgrow.out (by have:=Hb1.out.size;omega) (fun k hk => (Hown.out.lt k hk).1)).setCell (p:=⟨b,1,none⟩) hB _
 · rcases e with e | e
   · exact h1 e.symm
   · have ho:∃ p v0,w.heap[b]?=some (.cells #[p,v0] 164 (0,0))∧v0=v:=by
      have hk:∀ p,Lib.BuilderAt 164 5 B b p bs w→∃ p v0,w.heap[b]?=some (.cells #[p,v0] 164 (0,0))∧v0=v:=fun p hp => by
       obtain ⟨_,v0,hv0,_,_⟩:=hp
       exact ⟨p,v0,hv0,HV.out p v0 hv0⟩
      exact HH.out.elim (hk _) (hk _)
     obtain ⟨p,v0,h3,rfl⟩:=ho
     exact h2 p v0 h3 e
 · exact ((HCH.out.mono fun _ _ e => .inl e).trans ((Chg.grown' Hgrow.out).mono fun k _ e => .inr e)).setCell (p:=⟨b,1,none⟩) (fun _ => .inl rfl) _
theorem IsB.below {B b:Nat} {bs:List Value} {w w':World} (h:IsB B b bs w) (x:Below w.heap.size w w'):IsB B b bs w':=by
 have go:∀ p,Lib.BuilderAt 164 5 B b p bs w→Lib.BuilderAt 164 5 B b p bs w':=fun p h => by
  have hlt:=h.lt
  obtain ⟨hB,v,hb,hown,hne⟩:=h
  refine ⟨hB,v,(x.block b hlt).trans hb,?_,hne⟩
  have hl2:=World.ownsRow.lt hown
  obtain ⟨h1,h2⟩:=hown
  refine ⟨h1,?_⟩
  rcases h2 with h2 | ⟨g,cap,cur,hv,hg,hh,r⟩
  · exact .inl h2
  · exact .inr ⟨g,cap,cur,hv,hg,(x.block g (hl2 g (by rw [hv];rfl)).2).trans hh,r⟩
 exact h.elim (fun h => .inl (go _ h)) (fun h => .inr (go _ h))
theorem IsB.new (w:World):IsB w.heap.size w.heap.size [] (w.alloc (.cells #[.pointer none,.slice none 0 0] 164 (0,0))):=by
 exact .inl ⟨Nat.le_refl _,.slice none 0 0,Blk.alloc_new w _ _,World.ownsRow_nil _ _ _ 1,by simp [Value.ownBlock]⟩
end Go.Proofs.YtdacanghbepjpaaGreatDoor
namespace Go.Proofs.YtdacanghbepjpaaGreatDoor
set_option linter.unusedSimpArgs false
set_option linter.unusedVariables false
set_option maxRecDepth 100000
open Go.RowKit Go.Maps
open Dsk
structure LEnv (w:World):Prop where
 pow:PowTab w
 err : ∃ tp p, w.var? Tryz.prog "strconv.ErrSyntax" = some #[.iface tp p]
section
variable {w0 w w':World} {X H S:Nat→Prop} {v:Value} {d d':Dk} {j:Nat} {h:Hl}
theorem var_below {x:Array Value} {name:String} {g:Nat} (hg:Tryz.prog.globalNamed name=some g) (h:w.var? Tryz.prog name=some x) (y:Below w.heap.size w w'):w'.var? Tryz.prog name=some x:=by
 unfold World.var? at h ⊢
 rw [hg] at h ⊢
 simp only [Option.bind_some] at h ⊢
 have hlt:g<w.heap.size:=by
  apply Classical.byContradiction
  intro hge
  rw [Array.getElem?_eq_none (by omega)] at h
  cases h
 rw [y.block _ hlt]
 exact h
theorem LEnv.below (h:LEnv w) (y:Below w.heap.size w w'):LEnv w':=by
 obtain ⟨h1,tp,p,h2⟩:=h
 exact ⟨h1.below y,tp,p,var_below (g:=1) (by kernel_rfl) h2 y⟩
theorem itoa_any (h:LEnv w) {n:Nat} (h2:n≤2147483647):Calls Tryz.prog 141 #[.int .i64 n] w fun e w' => e=.returned (.string (decB n))∧Below w.heap.size w w':=by
 refine (Tryz.strconv_Itoa n (by omega) (by omega) w h.pow).mono ?_
 rintro e w' ⟨rfl,k,os,rfl⟩
 refine ⟨?_,Lib.below_grow _ _ (Nat.le_refl _) k os⟩
 have e:Lib.itoa (n:Int)=Lib.decDigits n:=by
  unfold Lib.itoa
  rw [if_neg (by omega)]
  congr 1
 rw [e]
 rfl
theorem ln_cat (n:Nat):(⟨#[108]⟩:ByteArray)++decB n=lnB n:=by
 apply bytes_ext
 simp [decB,lnB,ln]
theorem decB_nine {n:Nat} (h:n≤999999999):(decB n).size≤9:=by
 have:(decB n).size=(Lib.decDigits n).length:=List.size_toArray
 rw [this];exact digits_nine h
theorem lnB_size {n:Nat} (h:n≤999999999):(lnB n).size≤10:=by
 have h1:(lnB n).size=(ln n).length:=List.size_toArray
 have:=(ln_named h).2
 have h2:=digits_nine h
 rw [h1]
 unfold ln
 simp only [List.length_cons]
 omega
def segVal (n:Nat) (sv ev:Value):Value:=.agg #[.int .i64 n,sv,ev]
theorem segName_any (he:LEnv w) {n:Nat} (hn:n≤999999999) (sx ex:Option Addr) (sn sc en ec:Nat) :
  Calls Tryz.prog 80 #[segVal n (.slice sx sn sc) (.slice ex en ec)] w fun e w' => e=.returned (.string (lnB n))∧Below w.heap.size w w':=by
 obtain ⟨w1,hw1⟩:∃ w1,w1=w.alloc (.cells #[.int .i64 n,.slice sx sn sc,.slice ex en ec] 132 (0,0)):=⟨_,rfl⟩
 have hb1:Below w.heap.size w w1:=by rw [hw1];exact (Below.refl _ _).alloc (Nat.le_refl _) _
 have hk1:Blk w1 w.heap.size 132 #[.int .i64 n,.slice sx sn sc,.slice ex en ec]:=by rw [hw1];exact Blk.alloc_new w _ _
 have c0:=hk1.cell 0
 have HI:=Lib.hid (itoa_any (he.below hb1) (n:=n) (by omega))
 have hz:=decB_nine hn
 have hc:=ln_cat n
 obtain ⟨D,hD⟩:∃ D,D=decB n:=⟨_,rfl⟩
 rw [← hD] at HI hz hc
 have HC:=Lib.hid hc
 have HB:=Lib.hid hb1
 have HW1:=Lib.hid hw1
 have nz1:¬ 9223372036854775807<(⟨#[108]⟩:ByteArray).size+D.size:=by
  have:(⟨#[108]⟩:ByteArray).size=1:=rfl
  omega
 have nz2:¬ 9223372036854775807<1+D.size:=by omega
 rw [hw1] at c0
 unfold segVal
 clear hn hb1 hc hD hk1 hw1 he
 go_enter Tryz.func80,Tryz.ntmps80
 go_wp2_with fail
 rw [← HW1.out]
 refine HI.out.mono ?_
 rintro e w2 ⟨rfl,hb2⟩
 have HB2:=Lib.hid (HB.out.trans (hb2.mono HB.out.size))
 clear hb2 c0
 go_wp2_with fail
 go_ret
 rw [HC.out]
 exact ⟨rfl,HB2.out⟩
theorem segNext_any {n m:Nat} (sx ex:Option Addr) (sn sc en ec:Nat) (hm:m=n+sn) (hn:m≤1000000000000) :
  Calls Tryz.prog 95 #[segVal n (.slice sx sn sc) (.slice ex en ec)] w fun e w' => e=.returned (.int .i64 m)∧Below w.heap.size w w':=by
 have HB:=Lib.hid (show Below w.heap.size w (w.alloc (.cells #[.int .i64 n,.slice sx sn sc,.slice ex en ec] 132 (0,0))) from (Below.refl _ _).alloc (Nat.le_refl _) _)
 have hs:(n:Int)+(sn:Int)=(m:Int):=by omega
 have hw:IntKind.i64.wrap (m:Int)=m:=by rw [IntKind.wrap_i64];omega
 unfold segVal
 clear hm
 go_enter Tryz.func95,Tryz.ntmps95
 go_wp2_with fail
 go_ret
 exact ⟨rfl,HB.out⟩
theorem segEnd_any {n:Nat} {l:List Sp.Span} (sx:Option Addr) (sn sc:Nat) {ev:Value} {B:Nat} (hev:OwnI w B ev (sgEnds l)) (hmay:∀ x∈l,Sp.May x) (hm:(sgT l).length≤1000000000) :
  Calls Tryz.prog 82 #[segVal n (.slice sx sn sc) ev] w fun e w' => e=.returned (.int .i64 (sgT l).length)∧Below w.heap.size w w':=by
 obtain ⟨ex,ec,rfl,hel⟩:=hev.each
 rw [sgEnds_length]
 have HB:=Lib.hid (show Below w.heap.size w (w.alloc (.cells #[.int .i64 n,.slice sx sn sc,.slice ex l.length ec] 132 (0,0))) from (Below.refl _ _).alloc (Nat.le_refl _) _)
 obtain ⟨m,hmm⟩:∃ m,m=l.length:=⟨_,rfl⟩
 rw [← hmm] at HB ⊢
 unfold segVal
 by_cases h0:m=0
 · subst h0
   have hl:l=[]:=List.length_eq_zero_iff.1 hmm.symm
   subst hl
   clear hel hmm hev
   go_enter Tryz.func82,Tryz.ntmps82
   go_wp2_with fail
   go_ret
   exact ⟨rfl,HB.out⟩
 · obtain ⟨b,rfl,_,hb,hc⟩:=hel (m-1) (by rw [sgEnds_length];omega)
   rw [sgEnds_get] at hc
   have e2:l.take (m-1+1)=l:=by rw [show m-1+1=l.length by omega,List.take_length]
   rw [e2] at hc
   obtain ⟨t,ht⟩:∃ t,t=(sgT l).length:=⟨_,rfl⟩
   rw [← ht] at hc ⊢
   have hlm:=(sgT_len l hmay).1
   obtain ⟨q,hq⟩:∃ q,q=m-1:=⟨_,rfl⟩
   rw [← hq] at hc
   have hc2:=(HB.out.cell (p:=⟨b,q,none⟩) hb).trans hc
   have hm1:(m:Int)-1=(q:Int):=by omega
   have hm2:(0:Int)≤(q:Int):=by omega
   have hm3:(q:Int)<m:=by omega
   have hm5:q≤1000000000:=by omega
   have t0:((m:Int) == 0)=false:=by rw [beq_eq_false_iff_ne];omega
   clear hc hmm ht e2 hev hel hq hlm
   go_enter Tryz.func82,Tryz.ntmps82
   go_wp2_with fail
   go_ret
   exact ⟨rfl,HB.out⟩
end
end Go.Proofs.YtdacanghbepjpaaGreatDoor
namespace Go.Proofs.YtdacanghbepjpaaGreatDoor
set_option linter.unusedSimpArgs false
set_option linter.unusedVariables false
set_option maxRecDepth 100000
open Go.RowKit Go.Maps
open Dsk
section
variable {w0 w w':World} {X H S:Nat→Prop} {v:Value} {d d':Dk} {j:Nat} {h:Hl}
end
end Go.Proofs.YtdacanghbepjpaaGreatDoor
namespace Go.Proofs.YtdacanghbepjpaaGreatDoor
set_option linter.unusedSimpArgs false
set_option linter.unusedVariables false
set_option maxRecDepth 100000
open Go.RowKit Go.Maps
open Dsk
theorem belowD (w:World) (n:Nat):Below w.heap.size w (w.drewN n):=(Chg.drewN' (S:=fun _ => False) n).below (Nat.le_refl _) (fun _ _ e => e)
theorem Calls.quietB {P:Program} {f:FuncId} {args:Array Value} {w:World} {n:Nat} {v:Value} (h:Calls P f args (w.drewN n) fun e w' => e=.returned v∧w.drewN n=w'):Calls P f args (w.drewN n) fun e w'' => e=.returned v∧∃ m,w''=w.drewN m :=
 h.mono fun e w' ⟨h1,h2⟩ => ⟨h1,n,h2.symm⟩
section
variable {w0 w w':World} {X H S:Nat→Prop} {v:Value} {d d':Dk} {j:Nat} {h:Hl}
set_option maxHeartbeats 1000000 in
theorem hruns_any (h0:HS w0 X H w v d j h) :
  Calls Tryz.prog 74 #[.pointer (some ⟨j,0,none⟩)] w fun e w' => e=.returned (.int .i64 (if h.runs d then 0 else 51))∧Below w.heap.size w w':=by
 obtain ⟨bd,rfl⟩:=h0.ptr
 obtain ⟨lv,vs,hb,_⟩:=h0.mem
 obtain ⟨c0,c1,c2,_⟩:=blk4 hb
 have hU:=fun n => Calls.quietB (h0.live.keep (belowD w n)).up
 have hS:=fun n => Calls.quietB (h0.live.keep (belowD w n)).starts
 obtain ⟨r,hr⟩:∃ r:Int,r=if h.runs d then 0 else 51:=⟨_,rfl⟩
 rw [← hr]
 have HR:=Lib.hid hr
 obtain ⟨st,lost,l⟩:=h
 obtain ⟨off,hoff⟩:∃ off,off=d.off:=⟨_,rfl⟩
 obtain ⟨ds,hds⟩:∃ ds,ds=d.starts:=⟨_,rfl⟩
 rw [← hoff] at hU
 rw [← hds] at hS
 have HOFF:=Lib.hid hoff
 have HDS:=Lib.hid hds
 have HS:=Lib.hid hS
 simp only at c1 c2
 clear hr hoff hds hS h0 hb
 cases lost with
 | true =>
  have HV:=Lib.hid (show r=51 by rw [HR.out,if_neg];rintro ⟨e,_⟩;cases e)
  clear hU HS HOFF HDS
  go_enter Tryz.func74,Tryz.ntmps74
  go_wp2_with fail
  go_quiet (fail)
  go_wp2_with fail
  go_ret
  rw [HV.out]
  exact ⟨rfl,belowD _ _⟩
 | false =>
  cases off with
  | true =>
   have HV:=Lib.hid (show r=51 by rw [HR.out,if_neg];rintro ⟨_,e,_⟩;rw [← HOFF.out] at e;cases e)
   have HU:=Lib.hid hU
   clear hU HS HOFF HDS
   go_enter Tryz.func74,Tryz.ntmps74
   go_wp2_with fail
   go_quiet ((go_at_call 37;exact HU.out _))
   go_wp2_with fail
   go_ret
   rw [HV.out]
   exact ⟨rfl,belowD _ _⟩
  | false =>
   have HU:=Lib.hid hU
   clear hU
   by_cases hst:ds=st
   · have HV:=Lib.hid (show r=0 by rw [HR.out,if_pos];exact ⟨rfl,HOFF.out.symm,by show d.starts=st;rw [← HDS.out];exact hst⟩)
     subst hst
     clear HOFF HDS
     go_enter Tryz.func74,Tryz.ntmps74
     go_wp2_with fail
     go_quiet (first | (go_at_call 37;exact HU.out _) | (go_at_call 127;exact HS.out _))
     go_wp2_with fail
     go_ret
     rw [HV.out]
     exact ⟨rfl,belowD _ _⟩
   · have HV:=Lib.hid (show r=51 by rw [HR.out,if_neg];rintro ⟨_,_,e⟩;rw [← HDS.out] at e;exact hst e)
     have t1:(ds == st)=false:=beq_eq_false_iff_ne.2 hst
     clear HOFF HDS hst
     go_enter Tryz.func74,Tryz.ntmps74
     go_wp2_with fail
     go_quiet (first | (go_at_call 37;exact HU.out _) | (go_at_call 127;exact HS.out _))
     go_wp2_with fail
     go_ret
     rw [HV.out]
     exact ⟨rfl,belowD _ _⟩
end
end Go.Proofs.YtdacanghbepjpaaGreatDoor
namespace Go.Proofs.YtdacanghbepjpaaGreatDoor
set_option linter.unusedSimpArgs false
set_option linter.unusedVariables false
set_option maxRecDepth 100000
open Go.RowKit Go.Maps
open Dsk
section
variable {w0 w w':World} {X H S:Nat→Prop} {v lv:Value} {d d':Dk} {j B:Nat} {h:Hl} {vs:List SegV} {l:List Sg}
structure SegIn (B:Nat) (w:World) (g i:Nat) (a:Sg) (sv ev:Value):Prop where
 low:B≤g
 lt:g<w.heap.size
 c0:w.cell? ⟨g,i*3,none⟩=some (.int .i64 a.first)
 c1:w.cell? ⟨g,i*3+1,none⟩=some sv
 c2:w.cell? ⟨g,i*3+2,none⟩=some ev
 f1:w.frozen? ⟨g,i*3+1,none⟩=false
 f2:w.frozen? ⟨g,i*3+2,none⟩=false
 spans:OwnSp w B sv a.spans
 ends:OwnI w B ev (sgEnds a.spans)
theorem LogRows.seg (hr:LogRows B w lv vs l) (i:Nat) (hi:i<l.length):∃ g c sx sc ex ec,lv=.slice (some ⟨g,0,none⟩) l.length c∧l.length≤c∧SegIn B w g i l[i] (.slice sx l[i].spans.length sc) (.slice ex l[i].spans.length ec) ∧
  ∃ hi':i<vs.length,vs[i].sv=.slice sx l[i].spans.length sc∧vs[i].ev=.slice ex l[i].spans.length ec:=by
 have hi':i<vs.length:=by rw [hr.len];exact hi
 obtain ⟨g,c,hlv,hc,hB,hg,hcs⟩:=hr.row.at_ segRow_len i hi'
 have hs:=hr.each i hi' hi
 obtain ⟨sx,sc,hsv⟩:=OwnRow.shape hs.spans
 obtain ⟨ex,ec,hev,_⟩:=hs.ends.each
 rw [sgEnds_length] at hev
 rw [hr.len] at hlv hc
 obtain ⟨a0,b0⟩:=hcs 0 _ rfl
 obtain ⟨a1,b1⟩:=hcs 1 _ rfl
 obtain ⟨a2,b2⟩:=hcs 2 _ rfl
 refine ⟨g,c,sx,sc,ex,ec,hlv,hc,⟨hB,hg,?_,by rw [← hsv];exact a1,by rw [← hev];exact a2,b1,b2,by rw [← hsv];exact hs.spans,by rw [← hev];exact hs.ends⟩,hi',hsv,hev⟩
 rw [← hs.first]
 exact a0
theorem LogRows.none_ (hr:LogRows B w lv vs []):∃ x c,lv=.slice x 0 c:=by
 obtain ⟨x,c,h⟩:=hr.row.shape
 rw [hr.len] at h
 exact ⟨x,c,h⟩
def lastPtr (lv:Value) (n:Nat):Value:=match lv,n with
 | .slice (some a) _ _,n+1 => .pointer (some ⟨a.block,n*3,none⟩)
 | _,_ => .pointer none
set_option maxHeartbeats 1000000 in
theorem hlast_any (hb:Blk w j 136 #[v,.int .i64 h.st,.bool h.lost,lv]) (hr:LogRows B w lv vs l) (hl:l.length≤1000000) :
  Calls Tryz.prog 77 #[.pointer (some ⟨j,0,none⟩)] w fun e w' => e=.returned (lastPtr lv l.length)∧Below w.heap.size w w':=by
 obtain ⟨_,_,_,c3⟩:=blk4 hb
 obtain ⟨n,hn⟩:∃ n,n=l.length:=⟨_,rfl⟩
 rw [← hn]
 cases n with
 | zero =>
  have hl0:l=[]:=List.length_eq_zero_iff.1 hn.symm
  subst hl0
  obtain ⟨x,c,rfl⟩:=hr.none_
  have e:lastPtr (.slice x 0 c) 0=.pointer none:=by unfold lastPtr;cases x <;> rfl
  rw [e]
  clear hr hb e hn hl
  go_enter Tryz.func77,Tryz.ntmps77
  go_wp2_with fail
  go_ret
  exact ⟨rfl,Below.refl _ _⟩
 | succ n =>
  obtain ⟨g,c,sx,sc,ex,ec,hlv,hc,hs,_⟩:=hr.seg n (by omega)
  rw [← hn] at hlv hc
  subst hlv
  have e:lastPtr (.slice (some ⟨g,0,none⟩) (n+1) c) (n+1)=.pointer (some ⟨g,n*3,none⟩):=rfl
  rw [e]
  obtain ⟨m,hm⟩:∃ m,m=n+1:=⟨_,rfl⟩
  rw [← hm] at c3 hc hn
  have hm1:(m:Int)-1=(n:Int):=by omega
  have hm2:(0:Int)≤(n:Int):=by omega
  have hm3:(n:Int)<m:=by omega
  have t0:((m:Int) == 0)=false:=by rw [beq_eq_false_iff_ne];omega
  have hn5:n≤1000000:=by omega
  have hw5:IntKind.i64.wrap (n:Int)=n:=by rw [IntKind.wrap_i64];omega
  clear hr hb e hs hc hm hn hl
  go_enter Tryz.func77,Tryz.ntmps77
  go_wp2_with fail
  go_quiet (fail)
  go_wp2_with fail
  go_ret
  exact ⟨rfl,belowD _ _⟩
theorem hend_any (hb:Blk w j 136 #[v,.int .i64 h.st,.bool h.lost,lv]) (hr:LogRows B w lv vs l) (hl:l.length≤1000000) :
  Calls Tryz.prog 83 #[.pointer (some ⟨j,0,none⟩)] w fun e w' => e=.returned (lastPtr lv l.length)∧Below w.heap.size w w':=by
 have H:=Lib.hid (hlast_any hb hr hl)
 clear hb hr hl
 go_enter Tryz.func83,Tryz.ntmps83
 go_wp2_with fail
 refine H.out.mono ?_
 rintro e w1 ⟨rfl,hb1⟩
 have HB:=Lib.hid hb1
 clear hb1
 go_wp2_with fail
 go_ret
 exact ⟨rfl,HB.out⟩
end
end Go.Proofs.YtdacanghbepjpaaGreatDoor
namespace Go.Proofs.YtdacanghbepjpaaGreatDoor
set_option linter.unusedSimpArgs false
set_option linter.unusedVariables false
set_option maxRecDepth 100000
open Go.RowKit Go.Maps
open Dsk
section
variable {w0 w w':World} {X H S:Nat→Prop} {v lv:Value} {d d':Dk} {j B:Nat} {h:Hl} {vs:List SegV} {l:List Sg}
theorem LogRows.below (h:LogRows B w lv vs l) (x:Below w.heap.size w w'):LogRows B w' lv vs l:=h.chg (S:=fun _ => False) (Chg.of_below x) fun _ _ e => e
set_option maxHeartbeats 1000000 in
theorem hfirst_any (h0:HS w0 X H w v d j h) (hl:h.l.length≤1000000) :
  Calls Tryz.prog 26 #[.pointer (some ⟨j,0,none⟩)] w fun e w' => e=.returned (.int .i64 ((if h.runs d then firstOf h.l else 0:Nat):Int))∧Below w.heap.size w w':=by
 have HR:=Lib.hid (hruns_any h0)
 obtain ⟨lv,vs,hb,hr,_⟩:=h0.mem
 by_cases hrun:h.runs d
 · rw [if_pos hrun] at HR ⊢
   obtain ⟨l,hle⟩:∃ l,l=h.l:=⟨_,rfl⟩
   rw [← hle] at hl hr ⊢
   cases l with
   | nil =>
    obtain ⟨x,c,rfl⟩:=hr.none_
    have hjl:=hb.lt
    have c3:=hb.cell 3
    simp at c3
    clear h0 hrun hr hb hle
    go_enter Tryz.func26,Tryz.ntmps26
    go_wp2_with fail
    refine HR.out.mono ?_
    rintro e w1 ⟨rfl,hb1⟩
    have g3:=(hb1.cell (p:=⟨j,3,none⟩) hjl).trans c3
    have HB:=Lib.hid hb1
    clear hb1 c3
    go_wp2_with fail
    go_ret
    exact ⟨rfl,HB.out⟩
   | cons a r =>
    obtain ⟨g,c,sx,sc,ex,ec,rfl,hc,hs,_⟩:=hr.seg 0 (by simp)
    have hjl:=hb.lt
    have c3:=hb.cell 3
    have s0:=hs.c0
    have hgl:=hs.lt
    obtain ⟨m,hm⟩:∃ m,m=(a::r).length:=⟨_,rfl⟩
    rw [← hm] at c3 hc hl
    have hm0:0<m:=by rw [hm];simp
    have hm1:(0:Int)<m:=by omega
    have t0:((m:Int) == 0)=false:=by rw [beq_eq_false_iff_ne];omega
    obtain ⟨n,hn⟩:∃ n,n=a.first:=⟨_,rfl⟩
    have e0:(a::r)[0]=a:=rfl
    rw [e0,← hn] at s0
    have e1:firstOf (a::r)=n:=hn.symm
    rw [e1]
    simp at c3 s0
    clear h0 hrun hr hb hle hs hm hn e1 e0
    go_enter Tryz.func26,Tryz.ntmps26
    go_wp2_with fail
    refine HR.out.mono ?_
    rintro e w1 ⟨rfl,hb1⟩
    have g3:=(hb1.cell (p:=⟨j,3,none⟩) hjl).trans c3
    have g0:=(hb1.cell (p:=⟨g,0,none⟩) hgl).trans s0
    have HB:=Lib.hid hb1
    clear hb1 c3 s0
    go_wp2_with fail
    go_ret
    exact ⟨rfl,HB.out⟩
 · rw [if_neg hrun] at HR ⊢
   clear h0 hrun hr hb
   go_enter Tryz.func26,Tryz.ntmps26
   go_wp2_with fail
   refine HR.out.mono ?_
   rintro e w1 ⟨rfl,hb1⟩
   have HB:=Lib.hid hb1
   clear hb1
   go_wp2_with fail
   go_ret
   exact ⟨rfl,HB.out⟩
set_option maxHeartbeats 1000000 in
theorem hendn_any (h0:HS w0 X H w v d j h) (hl:h.l.length≤1000000) (hn:nextOf h.l≤1000000000) :
  Calls Tryz.prog 30 #[.pointer (some ⟨j,0,none⟩)] w fun e w' => e=.returned (.int .i64 ((if h.runs d then nextOf h.l else 0:Nat):Int))∧Below w.heap.size w w':=by
 have HR:=Lib.hid (hruns_any h0)
 obtain ⟨lv,vs,hb,hr,_⟩:=h0.mem
 by_cases hrun:h.runs d
 · rw [if_pos hrun] at HR ⊢
   have HBK:=Lib.hid hb
   have HRW:=Lib.hid hr
   rcases List.eq_nil_or_concat h.l with he | ⟨init,a,he⟩
   · rw [he] at hr ⊢
     obtain ⟨x,c,rfl⟩:=hr.none_
     have hjl:=hb.lt
     have c3:=hb.cell 3
     simp at c3
     have e0:nextOf []=0:=rfl
     rw [e0]
     clear h0 hrun hr hb he e0 HBK HRW
     go_enter Tryz.func30,Tryz.ntmps30
     go_wp2_with fail
     refine HR.out.mono ?_
     rintro e w1 ⟨rfl,hb1⟩
     have g3:=(hb1.cell (p:=⟨j,3,none⟩) hjl).trans c3
     have HB:=Lib.hid hb1
     clear hb1 c3
     go_wp2_with fail
     go_ret
     exact ⟨rfl,HB.out⟩
   · rw [List.concat_eq_append] at he
     have hlen:h.l.length=init.length+1:=by rw [he];simp
     obtain ⟨g,c,sx,sc,ex,ec,rfl,hc,hs,hdep⟩:=hr.seg init.length (by omega)
     clear hdep
     have ea:h.l[init.length]'(by omega)=a:=by simp [he]
     rw [ea] at hs
     rw [he,nextOf_snoc] at hn ⊢
     have HL:=Lib.hid (fun (W:World) (hW:Below w.heap.size w W) => hlast_any (HBK.out.below hW) (HRW.out.below hW) hl)
     rw [hlen] at HL hb
     have elp:lastPtr (.slice (some ⟨g,0,none⟩) (init.length+1) c) (init.length+1)=.pointer (some ⟨g,init.length*3,none⟩):=rfl
     rw [elp] at HL
     obtain ⟨n,hnn⟩:∃ n,n=init.length:=⟨_,rfl⟩
     rw [← hnn] at hs HL hb
     obtain ⟨m,hm⟩:∃ m,m=n+1:=⟨_,rfl⟩
     rw [← hm] at hb
     have hjl:=hb.lt
     have c3:=hb.cell 3
     simp at c3
     have t0:((m:Int) == 0)=false:=by rw [beq_eq_false_iff_ne];omega
     have hgl:=hs.lt
     have s0:=hs.c0
     have s1:=hs.c1
     have s2:=hs.c2
     obtain ⟨sn,hsn⟩:∃ sn,sn=a.spans.length:=⟨_,rfl⟩
     obtain ⟨fn,hfn⟩:∃ fn,fn=a.first:=⟨_,rfl⟩
     obtain ⟨nx,hnx⟩:∃ nx,nx=a.next:=⟨_,rfl⟩
     rw [← hsn] at s1 s2
     rw [← hfn] at s0
     rw [← hnx] at hn ⊢
     have HN:=Lib.hid (fun W:World => segNext_any (w:=W) (n:=fn) (m:=nx) sx ex sn sc sn ec (by rw [hnx,hfn,hsn];rfl) (by omega))
     unfold segVal at HN
     clear h0 hrun hr hb he HBK HRW hlen hs ea hnn hm hsn hfn hnx elp hc hl
     go_enter Tryz.func30,Tryz.ntmps30
     go_wp2_with fail
     refine HR.out.mono ?_
     rintro e w1 ⟨rfl,hb1⟩
     have g3:=(hb1.cell (p:=⟨j,3,none⟩) hjl).trans c3
     have HB:=Lib.hid hb1
     clear hb1 c3
     go_wp2_with fail
     refine (HL.out w1 HB.out).mono ?_
     rintro e w2 ⟨rfl,hb2⟩
     have HB2:=Lib.hid (HB.out.trans (hb2.mono HB.out.size))
     have q0:=(HB2.out.cell (p:=⟨g,n*3,none⟩) hgl).trans s0
     have q1:=(HB2.out.cell (p:=⟨g,n*3+1,none⟩) hgl).trans s1
     have q2:=(HB2.out.cell (p:=⟨g,n*3+2,none⟩) hgl).trans s2
     clear hb2 g3 s0 s1 s2
     go_wp2_with fail
     refine (HN.out w2).mono ?_
     rintro e w3 ⟨rfl,hb3⟩
     have HB3:=Lib.hid (HB2.out.trans (hb3.mono HB2.out.size))
     clear hb3
     go_wp2_with fail
     go_ret
     exact ⟨rfl,HB3.out⟩
 · rw [if_neg hrun] at HR ⊢
   clear h0 hrun hr hb
   go_enter Tryz.func30,Tryz.ntmps30
   go_wp2_with fail
   refine HR.out.mono ?_
   rintro e w1 ⟨rfl,hb1⟩
   have HB:=Lib.hid hb1
   clear hb1
   go_wp2_with fail
   go_ret
   exact ⟨rfl,HB.out⟩
end
end Go.Proofs.YtdacanghbepjpaaGreatDoor
namespace Go.Proofs.YtdacanghbepjpaaGreatDoor
set_option linter.unusedSimpArgs false
set_option linter.unusedVariables false
set_option maxRecDepth 100000
open Go.RowKit Go.Maps
open Dsk
theorem count_rise (x:Int):∀ (l:List Int),l.Pairwise (·<·)→l.countP (fun e => decide (e≤x))=l.countP (fun e => decide (e<x))+(if l.contains x then 1 else 0)
 | [],_ => by simp
 | a::l,h => by
  obtain ⟨h1,h2⟩:=List.pairwise_cons.1 h
  have ih:=count_rise x l h2
  rw [List.countP_cons,List.countP_cons,ih,List.contains_cons]
  by_cases e:x=a
  · subst e
    have hz:l.contains x=false:=by
     rw [List.contains_eq_mem]
     exact decide_eq_false fun hm => by have:=h1 x hm;omega
    rw [hz]
    simp
  · have e1:(x == a)=false:=beq_eq_false_iff_ne.2 e
    rw [e1,Bool.false_or]
    by_cases hlt:a<x
    · have p1:decide (a≤x)=true:=decide_eq_true (by omega)
      have p2:decide (a<x)=true:=decide_eq_true hlt
      rw [p1,p2]
      simp only [if_true]
      omega
    · have p1:decide (a≤x)=false:=decide_eq_false (by omega)
      have p2:decide (a<x)=false:=decide_eq_false hlt
      rw [p1,p2]
      simp only [Bool.false_eq_true,if_false]
      omega
theorem sgEnds_rise (l:List Sp.Span) (hm:∀ x∈l,Sp.May x):(sgEnds l).Pairwise (·<·):=by
 rw [List.pairwise_iff_getElem]
 intro i k hi hk hik
 rw [sgEnds_get,sgEnds_get]
 rw [sgEnds_length] at hi hk
 have h1:=sg_take_len l k hk
 have h2:=sgT_take_mono l (show i+1≤k by omega)
 omega
section
variable {w0 w w':World} {X H S:Nat→Prop} {v lv:Value} {d d':Dk} {j B:Nat} {h:Hl} {vs:List SegV} {l:List Sg}
theorem search_ends {ev:Value} {zs:List Int} (hev:OwnI w B ev zs) (hr:zs.Pairwise (·<·)) (hl:zs.length≤1000000) (x:Int) :
  Calls Tryz.prog 148 #[ev,.int .i64 x] w fun e w' => e=.returned (.tuple #[.int .i64 (zs.countP (fun e => decide (e<x)):Nat),.bool (zs.contains x)])∧Below w.heap.size w w':=by
 obtain ⟨ex,ec,rfl,hel⟩:=hev.each
 by_cases h0:zs.length=0
 · obtain rfl:=List.length_eq_zero_iff.1 h0
   refine (Tryz.slices_BinarySearch_int_empty ex ec x w).mono ?_
   rintro e w' ⟨rfl,rfl⟩
   exact ⟨rfl,Below.refl _ _⟩
 · obtain ⟨b,hb,_⟩:=hel 0 (by omega)
   subst hb
   have hle:zs.Pairwise (·≤·):=hr.imp fun h => Int.le_of_lt h
   refine (Tryz.slices_BinarySearch_int b 0 zs.length ec zs x w (Nat.le_refl _) (by omega) (fun k hk => ?_) (by rw [List.take_length];exact hle)).mono ?_
   · obtain ⟨b2,e2,_,_,hc⟩:=hel k hk
     injection e2 with e2
     injection e2 with e2 _ _
     subst e2
     rw [Nat.zero_add,hc]
     simp [List.getD,hk]
   · rintro e w' ⟨rfl,q,rfl⟩
     rw [List.take_length]
     exact ⟨rfl,belowD _ _⟩
set_option maxHeartbeats 4000000 in
theorem hsafe_any (h0:HS w0 X H w v d j h) (he:LEnv w) {a:Sg} {sx ex:Option Addr} {sc ec:Nat} (hev:OwnI w B (.slice ex a.spans.length ec) (sgEnds a.spans)) (hm:∀ x∈a.spans,Sp.May x) (hn:a.first≤999999999) (hl:a.spans.length≤1000000) :
  Calls Tryz.prog 91 #[.pointer (some ⟨j,0,none⟩),segVal a.first (.slice sx a.spans.length sc) (.slice ex a.spans.length ec)] w fun e w' => e=.returned (.int .i64 (sureN a.spans (d.synced (ln a.first))))∧Below w.heap.size w w':=by
 obtain ⟨bd,rfl⟩:=h0.ptr
 obtain ⟨lv,vs,hb,_⟩:=h0.mem
 obtain ⟨fn,hfn⟩:∃ fn,fn=a.first:=⟨_,rfl⟩
 obtain ⟨sn,hsn⟩:∃ sn,sn=a.spans.length:=⟨_,rfl⟩
 obtain ⟨sy,hsy⟩:∃ sy,sy=d.synced (ln a.first):=⟨_,rfl⟩
 rw [← hsy]
 rw [← hfn] at hn hsy ⊢
 rw [← hsn] at hev ⊢
 have hcr:=count_rise (sy:Int) (sgEnds a.spans) (sgEnds_rise a.spans hm)
 obtain ⟨cn,hcn⟩:∃ cn,cn=(sgEnds a.spans).countP (fun e => decide (e<(sy:Int))):=⟨_,rfl⟩
 obtain ⟨cb,hcb⟩:∃ cb,cb=(sgEnds a.spans).contains (sy:Int):=⟨_,rfl⟩
 have hle:cn≤1000000:=by
  have:=List.countP_le_length (p:=fun e:Int => decide (e<(sy:Int))) (l:=sgEnds a.spans)
  rw [sgEnds_length] at this
  omega
 have HSE:=Lib.hid (fun (W:World) (hW:Below w.heap.size w W) => by
  have:=search_ends (hev.kept hW) (sgEnds_rise a.spans hm) (by rw [sgEnds_length];exact hl) (sy:Int)
  rw [← hcn,← hcb] at this
  exact this)
 have hres:sureN a.spans sy=cn+(if cb then 1 else 0):=by unfold sureN;rw [hcr,← hcn,← hcb]
 obtain ⟨R,hR⟩:∃ R,R=sureN a.spans sy:=⟨_,rfl⟩
 rw [← hR] at hres ⊢
 have HRES:=Lib.hid hres
 have HNM:=Lib.hid (fun (W:World) (hW:Below w.heap.size w W) => segName_any (he.below hW) hn sx ex sn sc sn ec)
 unfold segVal at HNM ⊢
 have HSY:=Lib.hid (fun (W:World) (hW:Below w.heap.size w W) => (h0.live.keep hW).synced (lnB fn) (by have:=lnB_size hn;unfold maxLen;omega))
 rw [lnB_data,← hsy] at HSY
 obtain ⟨w1,hw1⟩:∃ w1,w1=w.alloc (.cells #[.int .i64 fn,.slice sx sn sc,.slice ex sn ec] 132 (0,0)):=⟨_,rfl⟩
 have hb1:Below w.heap.size w w1:=by rw [hw1];exact (Below.refl _ _).alloc (Nat.le_refl _) _
 have hk1:Blk w1 w.heap.size 132 #[.int .i64 fn,.slice sx sn sc,.slice ex sn ec]:=by rw [hw1];exact Blk.alloc_new w _ _
 obtain ⟨q,hq⟩:∃ q,q=w.heap.size:=⟨_,rfl⟩
 have HTC:=Lib.hid (fun (W:World) (hW:Below w1.heap.size w1 W) => show W.cell? ⟨q,0,none⟩=some (.int .i64 fn)∧W.cell? ⟨q,1,none⟩=some (.slice sx sn sc)∧W.cell? ⟨q,2,none⟩=some (.slice ex sn ec)∧W.cell? ⟨j,0,none⟩=some (.pointer (some ⟨bd,0,none⟩)) from by
  have hk:=hk1.below hW
  rw [← hq] at hk
  have c0:=(hb.below hb1).below hW
  exact ⟨hk.cell 0,hk.cell 1,hk.cell 2,c0.cell 0⟩)
 have HB1:=Lib.hid hb1
 have HW1:=Lib.hid hw1
 have HBW:=Lib.hid (fun (W:World) (hW:Below w1.heap.size w1 W) => show Below w.heap.size w W from hb1.trans (hW.mono hb1.size))
 clear h0 he hev hb hfn hsn hsy hcr hcn hcb hres hR hb1 hk1 hw1 hm hl
 go_enter Tryz.func91,Tryz.ntmps91
 go_wp2_with fail
 rw [← HW1.out,← hq]
 clear hq
 refine wp_region_two (T:=fun W => W.cell? ⟨q,0,none⟩=some (.int .i64 fn)∧W.cell? ⟨q,1,none⟩=some (.slice sx sn sc)∧W.cell? ⟨q,2,none⟩=some (.slice ex sn ec)∧W.cell? ⟨j,0,none⟩=some (.pointer (some ⟨bd,0,none⟩))) (S:=fun _ => True) (n:=99) (by kernel_rfl) ?_
 obtain ⟨y1,hy1⟩:∃ y1,y1=w1.drew:=⟨_,rfl⟩
 rw [← hy1]
 have hby:Below w1.heap.size w1 y1:=by rw [hy1];exact (Below.refl _ _).drew
 have HY1:=Lib.hid hby
 have hS:True:=trivial
 have hT:=HTC.out y1 HY1.out
 clear hy1 hby
 refine tk 0 8 hT hS ?_
 refine tk 1 9 hT hS ?_
 try simp only [xq]
 refine tk 2 10 hT hS ?_
 refine tk 3 11 hT hS ?_
 try simp only [xq]
 refine tk 4 12 hT hS ?_
 refine tk 5 13 hT hS ?_
 try simp only [xq]
 refine tk 6 14 hT hS ?_
 try simp only [xq]
 refine two_one 7 rfl (by kernel_rfl) ?_
 intro K hK
 go_simp
 refine (HNM.out y1 (HBW.out _ HY1.out)).mono ?_
 rintro e y2 ⟨rfl,hbz⟩
 have HBy2:=Lib.hid (Below.trans HY1.out (hbz.mono HY1.out.size))
 have hT1:=HTC.out y2 HBy2.out
 refine hK.out _ _ hT1 (fun _ _ => hS) ?_
 clear hK K hT hbz
 have hT:=hT1
 clear hT1
 try simp only [xq]
 refine two_one 8 rfl (by kernel_rfl) ?_
 intro K hK
 go_simp
 refine (HSY.out y2 (HBW.out _ HBy2.out)).mono ?_
 rintro e y3 ⟨rfl,rfl⟩
 refine hK.out _ _ hT (fun _ _ => hS) ?_
 clear hK K
 try simp only [xq]
 refine two_one 9 rfl (by kernel_rfl) ?_
 intro K hK
 go_simp
 refine (HSE.out y2 (HBW.out _ HBy2.out)).mono ?_
 rintro e y4 ⟨rfl,hbz⟩
 have HBy4:=Lib.hid (Below.trans HBy2.out (hbz.mono HBy2.out.size))
 have hT1:=HTC.out y4 HBy4.out
 refine hK.out _ _ hT1 (fun _ _ => hS) ?_
 clear hK K hT hbz
 have hT:=hT1
 clear hT1
 try simp only [xq]
 refine tk 10 7 hT hS ?_
 refine tk 11 18 hT hS ?_
 try simp only [xq]
 refine tk 12 19 hT hS ?_
 refine tk 13 5 hT hS ?_
 try simp only [xq]
 refine tk 14 6 hT hS ?_
 try simp only [xq]
 refine two_done (by kernel_rfl) ?_ _
 clear hT hS
 cases cb with
 | true =>
  have hr1:R=cn+1:=HRES.out
  have hsum:(cn:Int)+1=(R:Int):=by omega
  have hw:IntKind.i64.wrap (R:Int)=R:=by rw [IntKind.wrap_i64];omega
  clear hr1
  go_wp2_with fail
  go_ret
  exact ⟨rfl,HBW.out _ HBy4.out⟩
 | false =>
  have hr1:R=cn:=HRES.out
  subst hr1
  go_wp2_with fail
  go_ret
  exact ⟨rfl,HBW.out _ HBy4.out⟩
end
end Go.Proofs.YtdacanghbepjpaaGreatDoor
namespace Go.Proofs.YtdacanghbepjpaaGreatDoor
set_option linter.unusedSimpArgs false
set_option linter.unusedVariables false
set_option maxRecDepth 100000
open Go.RowKit Go.Maps
open Dsk
structure SgsBnd (l:List Sg):Prop where
 may:∀ a∈l,∀ x∈a.spans,Sp.May x
 first:∀ a∈l,a.first≤999999999
 len:∀ a∈l,a.spans.length≤1000000
 many:l.length≤1000000
section
variable {w0 w w':World} {X H S:Nat→Prop} {v lv:Value} {d d':Dk} {j B:Nat} {h:Hl} {vs:List SegV} {l:List Sg}
theorem sureL_drop (d:Dk) (l:List Sg) (k n:Nat) (hk:k<l.length):sureL d (l.drop k) n=if sureN l[k].spans (d.synced (ln l[k].first))<l[k].spans.length then l[k].first+sureN l[k].spans (d.synced (ln l[k].first)) else sureL d (l.drop (k+1)) (l[k].first+sureN l[k].spans (d.synced (ln l[k].first))):=by
 rw [List.drop_eq_getElem_cons hk]
 rfl
set_option maxHeartbeats 4000000 in
theorem hsure_any (h0:HS w0 X H w v d j h) (he:LEnv w) (hbd:SgsBnd h.l) :
  Calls Tryz.prog 27 #[.pointer (some ⟨j,0,none⟩)] w fun e w' => e=.returned (.int .i64 ((if h.runs d then sureL d h.l 0 else 0:Nat):Int))∧Below w.heap.size w w':=by
 have HR:=Lib.hid (hruns_any h0)
 by_cases hrun:h.runs d
 · rw [if_pos hrun] at HR ⊢
   obtain ⟨lv,vs,hb,hr,_⟩:=h0.mem
   have HH:=Lib.hid h0
   have HE:=Lib.hid he
   have HBD:=Lib.hid hbd
   have HRW:=Lib.hid hr
   obtain ⟨x,c,rfl⟩:=hr.row.shape
   rw [hr.len] at hb HRW
   obtain ⟨m,hm⟩:∃ m,m=h.l.length:=⟨_,rfl⟩
   rw [← hm] at hb HRW
   have Hm:=Lib.hid hm
   have hm9:m≤1000000:=by rw [hm];exact hbd.many
   have hjl:=hb.lt
   have c3:=hb.cell 3
   simp at c3
   obtain ⟨R,hR⟩:∃ R,R=sureL d h.l 0:=⟨_,rfl⟩
   rw [← hR]
   have HRR:=Lib.hid hR
   clear h0 hrun hr hb hm he hbd hR
   go_enter Tryz.func27,Tryz.ntmps27
   go_wp2_with fail
   refine HR.out.mono ?_
   rintro e w1 ⟨rfl,hb1⟩
   have g3:=(hb1.cell (p:=⟨j,3,none⟩) hjl).trans c3
   have HB1:=Lib.hid hb1
   clear hb1 c3
   go_wp2_with fail
   go_loopw [3,5,6,15] (fun v3 _ _ v15 wr => ∃ k n:Nat,v15=.int .i64 k∧v3=.int .i64 n∧k≤m∧R=sureL d (h.l.drop k) n∧Below w1.heap.size w1 wr) (fun _ _ _ v15 _ => m-(intOf v15).toNat)
   case atStart => exact ⟨0,0,rfl,rfl,Nat.zero_le _,HRR.out,Below.refl _ _⟩
   case round =>
    obtain ⟨k,n,rfl,rfl,hk,hrest,hbe⟩:=hrel
    have HRE:=Lib.hid hrest
    have HBE:=Lib.hid (HB1.out.trans (hbe.mono HB1.out.size))
    have HB2:=Lib.hid hbe
    clear hrest hbe
    by_cases hlt:k<m
    · have hkl:k<h.l.length:=by rw [← Hm.out];exact hlt
      obtain ⟨g,c',sx,sc,ex,ec,hlv,hc,hs,hdep⟩:=HRW.out.seg k hkl
      clear hdep
      injection hlv with e1 e2 e3
      subst e1
      clear e2 e3
      obtain ⟨a,ha⟩:∃ a,a=h.l[k]:=⟨_,rfl⟩
      rw [← ha] at hs
      have hmem:a∈h.l:=by rw [ha];exact List.getElem_mem hkl
      have hs2:=sureL_drop d h.l k n hkl
      rw [← ha] at hs2
      have hgl:=hs.lt
      have s0:=(HBE.out.cell (p:=⟨g,k*3,none⟩) hgl).trans hs.c0
      have s1:=(HBE.out.cell (p:=⟨g,k*3+1,none⟩) hgl).trans hs.c1
      have s2:=(HBE.out.cell (p:=⟨g,k*3+2,none⟩) hgl).trans hs.c2
      have hf9:=HBD.out.first a hmem
      have hl9:=HBD.out.len a hmem
      have HSA:=Lib.hid (fun (W:World) (hW:Below w.heap.size w W) => hsafe_any (sx:=sx) (sc:=sc) (HH.out.below hW) (HE.out.below hW) (hs.ends.kept hW) (HBD.out.may a hmem) hf9 hl9)
      obtain ⟨fn,hfn⟩:∃ fn,fn=a.first:=⟨_,rfl⟩
      obtain ⟨sn,hsn⟩:∃ sn,sn=a.spans.length:=⟨_,rfl⟩
      obtain ⟨su,hsu⟩:∃ su,su=sureN a.spans (d.synced (ln a.first)):=⟨_,rfl⟩
      rw [← hsu] at HSA hs2
      rw [← hfn] at HSA hs2 s0 hf9
      rw [← hsn] at HSA hs2 s1 s2 hl9
      have hsule:su≤sn:=by rw [hsu,hsn];exact sureN_le _ _
      unfold segVal at HSA
      have HS2:=Lib.hid hs2
      obtain ⟨tot,htot⟩:∃ tot,tot=fn+su:=⟨_,rfl⟩
      rw [← htot] at HS2
      have hti:(fn:Int)+(su:Int)=(tot:Int):=by omega
      have htw:IntKind.i64.wrap (tot:Int)=tot:=by rw [IntKind.wrap_i64];omega
      obtain ⟨q,hq⟩:∃ q,q=wr.heap.size:=⟨_,rfl⟩
      obtain ⟨wb,hwb⟩:∃ wb,wb=wr.alloc (.cells #[.int .i64 fn,.slice sx sn sc,.slice ex sn ec] 132 (0,0)):=⟨_,rfl⟩
      have hlt2:(k:Int)<m:=by omega
      have hk0:(0:Int)≤k:=by omega
      clear hs ha hmem hfn hsn hsu hs2 htot hc
      go_wp2_with fail
      rw [← hwb,← hq]
      have hbb:Below wr.heap.size wr wb:=by rw [hwb];exact (Below.refl _ _).alloc (Nat.le_refl _) _
      have hkb:Blk wb q 132 #[.int .i64 fn,.slice sx sn sc,.slice ex sn ec]:=by rw [hwb,hq];exact Blk.alloc_new wr _ _
      have HBB:=Lib.hid (HBE.out.trans (hbb.mono HBE.out.size))
      have HBB1:=Lib.hid (HB2.out.trans (hbb.mono HB2.out.size))
      have HKB:=Lib.hid hkb
      clear hwb hq hbb hkb s0 s1 s2 g3
      refine (HSA.out wb HBB.out).mono ?_
      rintro e w3 ⟨rfl,hb3⟩
      have hk3:=HKB.out.below hb3
      have q0:=hk3.cell 0
      have q1:=hk3.cell 1
      simp at q0 q1
      have HB3:=Lib.hid (HBB.out.trans (hb3.mono HBB.out.size))
      have HB31:=Lib.hid (HBB1.out.trans (hb3.mono HBB1.out.size))
      clear hb3 hk3
      by_cases hbr:su<sn
      · have hbr2:(su:Int)<sn:=by omega
        have HV:=Lib.hid (show R=tot by rw [HRE.out,HS2.out,if_pos hbr])
        go_wp2_with fail
        go_ret
        rw [HV.out]
        exact ⟨rfl,HB3.out⟩
      · have hbr2:¬ (su:Int)<sn:=by omega
        have HV:=Lib.hid (show R=sureL d (h.l.drop (k+1)) tot by rw [HRE.out,HS2.out,if_neg hbr])
        clear hbr
        go_wp2_with fail
        go_roundw
        case rel => exact ⟨k+1,tot,by go_num,rfl,by omega,HV.out,HB31.out⟩
        case measure => simp [intOf];omega
    · obtain rfl:k=m:=by omega
      have hge:¬ (k:Int)<k:=by omega
      have HV:=Lib.hid (show R=n by rw [HRE.out,List.drop_of_length_le (by rw [← Hm.out];exact Nat.le_refl _)];rfl)
      clear g3
      go_wp2_with fail
      go_ret
      rw [HV.out]
      exact ⟨rfl,HBE.out⟩
 · rw [if_neg hrun] at HR ⊢
   clear h0 hrun he hbd
   go_enter Tryz.func27,Tryz.ntmps27
   go_wp2_with fail
   refine HR.out.mono ?_
   rintro e w1 ⟨rfl,hb1⟩
   have HB:=Lib.hid hb1
   clear hb1
   go_wp2_with fail
   go_ret
   exact ⟨rfl,HB.out⟩
end
end Go.Proofs.YtdacanghbepjpaaGreatDoor
namespace Go.Proofs.YtdacanghbepjpaaGreatDoor
set_option linter.unusedSimpArgs false
set_option linter.unusedVariables false
set_option maxRecDepth 100000
open Go.RowKit Go.Maps
open Dsk
structure HO (w0:World) (X H:Nat→Prop) (w:World) (v:Value) (d:Dk) (j:Nat) (h:Hl) (lv:Value) (vs:List SegV):Prop where
 live:Live w0 X w v d
 blk:Blk w j 136 #[v,.int .i64 h.st,.bool h.lost,lv]
 rows:LogRows w0.heap.size w lv vs h.l
 inH:∀ k,HIn j lv vs k→H k
 sub:∀ k,H k→X k
 new:∀ k,H k→w0.heap.size≤k∧k<w.heap.size
section
variable {w0 w w':World} {X H S:Nat→Prop} {v lv:Value} {d d':Dk} {j B:Nat} {h:Hl} {vs:List SegV} {l:List Sg}
theorem HO.hs (h0:HO w0 X H w v d j h lv vs):HS w0 X H w v d j h:=⟨h0.live,⟨lv,vs,h0.blk,h0.rows,h0.inH⟩,h0.sub,h0.new⟩
theorem HS.open_ (h0:HS w0 X H w v d j h):∃ lv vs,HO w0 X H w v d j h lv vs:=by
 obtain ⟨live,⟨lv,vs,hb,hr,hi⟩,sub,new⟩:=h0
 exact ⟨lv,vs,live,hb,hr,hi,sub,new⟩
theorem HO.chg (h0:HO w0 X H w v d j h lv vs) (x:Chg S w w') (hl:Live w0 X w' v d') (hS:∀ k,H k→¬ S k):HO w0 X H w' v d' j h lv vs :=
 ⟨hl,h0.blk.chg x (hS j (h0.inH j (.inl rfl))),h0.rows.chg x fun k hk => hS k (h0.inH k (.inr hk)),h0.inH,h0.sub,fun k hk => ⟨(h0.new k hk).1,Nat.lt_of_lt_of_le (h0.new k hk).2 x.size⟩⟩
theorem HO.below (h0:HO w0 X H w v d j h lv vs) (x:Below w.heap.size w w'):HO w0 X H w' v d j h lv vs:=h0.chg (S:=fun _ => False) (Chg.of_below x) (h0.live.keep x) fun _ _ e => e
theorem HO.turn (h0:HO w0 X H w v d j h lv vs) (hl:Live w0 X w' v d') (x:Keeps X w w'):HO w0 X H w' v d' j h lv vs:=h0.chg (show Chg (fun k => ¬ X k) w w' from x) hl fun k hk e => e (h0.sub k hk)
theorem HO.ne (h0:HO w0 X H w v d j h lv vs):∀ k,lv.ownBlock=some k∨k∈blks vs→k≠j:=by
 have hb:=h0.blk
 rintro k hk rfl
 rcases hk with hk | hk
 · rcases h0.rows.row.2 with ⟨e,_⟩ | ⟨g,cap,cur,e,_,hh,_⟩
   · rw [e] at hk;cases hk
   · rw [e] at hk
     injection hk with hk
     have hk:g=k:=hk
     subst hk
     unfold Blk at hb
     rw [hb] at hh
     injection hh with hh
     injection hh with _ hh _
     exact absurd hh (by decide)
 · obtain ⟨i,hi2,hk⟩:=mem_blks.1 hk
   have hs:=h0.rows.each i hi2 (h0.rows.len ▸ hi2)
   rcases hk with hk | hk
   · rcases hs.spans.2 with ⟨e,_⟩ | ⟨g,cap,cur,e,_,hh,_⟩
     · rw [e] at hk;cases hk
     · rw [e] at hk
       injection hk with hk
       have hk:g=k:=hk
       subst hk
       unfold Blk at hb
       rw [hb] at hh
       injection hh with hh
       injection hh with _ hh _
       exact absurd hh (by decide)
   · rcases hs.ends.2 with ⟨e,_⟩ | ⟨g,cap,cur,e,_,hh,_⟩
     · rw [e] at hk;cases hk
     · rw [e] at hk
       injection hk with hk
       have hk:g=k:=hk
       subst hk
       unfold Blk at hb
       rw [hb] at hh
       injection hh with hh
       injection hh with _ hh _
       exact absurd hh (by decide)
theorem HO.told (h0:HO w0 X H w v d j h lv vs) (b:Bool):HO w0 X H (w.setCell ⟨j,2,none⟩ (.bool b)) v d j { h with lost:=b } lv vs∧HK X H w (w.setCell ⟨j,2,none⟩ (.bool b)):=by
 have hc:Chg (fun k => k=j) w (w.setCell ⟨j,2,none⟩ (.bool b)):=(Chg.refl (fun k => k=j) w).setCell (p:=⟨j,2,none⟩) (fun _ => rfl) _
 have hj:=h0.inH j (.inl rfl)
 refine ⟨⟨h0.live.chg hc (fun k e => by have e:k=j:=e;subst e;exact ⟨h0.sub _ hj,(h0.new _ hj).1⟩),h0.blk.set 2 _,h0.rows.chg hc h0.ne,h0.inH,h0.sub,fun k hk => ⟨(h0.new k hk).1,Nat.lt_of_lt_of_le (h0.new k hk).2 hc.size⟩⟩,Chg.mono hc fun k _ e => .inr (by have e:k=j:=e;subst e;exact hj)⟩
theorem HO.cells (h0:HO w0 X H w v d j h lv vs) {g n c:Nat} (hlv:lv=.slice (some ⟨g,0,none⟩) n c) (i:Nat) (hi:i<vs.length) :
  w.cell? ⟨j,0,none⟩=some v∧w.cell? ⟨g,i*3,none⟩=some (.int .i64 vs[i].first)∧w.cell? ⟨g,i*3+1,none⟩=some vs[i].sv∧w.cell? ⟨g,i*3+2,none⟩=some vs[i].ev:=by
 obtain ⟨g',c',hlv',_,_,_,hcs⟩:=h0.rows.row.at_ segRow_len i hi
 rw [hlv] at hlv'
 injection hlv' with e1 _ _
 injection e1 with e1
 injection e1 with e1 _ _
 subst e1
 exact ⟨h0.blk.cell 0,(hcs 0 _ rfl).1,(hcs 1 _ rfl).1,(hcs 2 _ rfl).1⟩
theorem lastPtr_nil (lv:Value):lastPtr lv 0=.pointer none:=by
 cases lv with
 | slice a _ _ => cases a <;> rfl
 | _ => rfl
set_option maxHeartbeats 1000000 in
theorem hdoes_at (h0:HO w0 X H w v d j h lv vs) (r:Int) :
  Calls Tryz.prog 78 #[.pointer (some ⟨j,0,none⟩),.int .i64 r] w fun e w' => e=.returned (.int .i64 r)∧HO w0 X H w' v d j (h.told r) lv vs∧HK X H w w':=by
 obtain ⟨_,_,c2,_⟩:=blk4 h0.blk
 have f2:=h0.blk.free 2
 obtain ⟨b,hbv⟩:∃ b,b=(h.lost || (r != 0 && r != 50)):=⟨_,rfl⟩
 have hfin:HO w0 X H (w.setCell ⟨j,2,none⟩ (.bool b)) v d j (h.told r) lv vs∧HK X H w (w.setCell ⟨j,2,none⟩ (.bool b)):=by
  unfold Hl.told
  rw [← hbv]
  exact h0.told b
 have HF:=Lib.hid hfin
 obtain ⟨lost,hl⟩:∃ lost,lost=h.lost:=⟨_,rfl⟩
 rw [← hl] at c2 hbv
 have HBV:=Lib.hid hbv
 clear hfin h0 hl hbv
 cases lost with
 | true =>
  have hb2:b=true:=HBV.out
  subst hb2
  go_enter Tryz.func78,Tryz.ntmps78
  go_wp2_with fail
  go_ret
  exact ⟨rfl,HF.out⟩
 | false =>
  by_cases h1:r=0
  · subst h1
    have hb2:b=false:=HBV.out
    subst hb2
    go_enter Tryz.func78,Tryz.ntmps78
    go_wp2_with fail
    go_ret
    exact ⟨rfl,HF.out⟩
  · have t1:(r == 0)=false:=beq_eq_false_iff_ne.2 h1
    by_cases h2:r=50
    · subst h2
      have hb2:b=false:=HBV.out
      subst hb2
      go_enter Tryz.func78,Tryz.ntmps78
      go_wp2_with fail
      go_ret
      exact ⟨rfl,HF.out⟩
    · have t2:(r == 50)=false:=beq_eq_false_iff_ne.2 h2
      have hb2:b=(r != 0 && r != 50):=HBV.out
      subst hb2
      go_enter Tryz.func78,Tryz.ntmps78
      go_wp2_with fail
      go_ret
      exact ⟨rfl,HF.out⟩
theorem HO.last (h0:HO w0 X H w v d j h lv vs) {init:List Sg} {a:Sg} (hl:h.l=init++[a]):∃ g c sx sc ex ec,lv=.slice (some ⟨g,0,none⟩) (init.length+1) c∧lastPtr lv h.l.length=.pointer (some ⟨g,init.length*3,none⟩) ∧
  OwnSp w w0.heap.size (.slice sx a.spans.length sc) a.spans∧OwnI w w0.heap.size (.slice ex a.spans.length ec) (sgEnds a.spans)∧∃ hi:init.length<vs.length,vs[init.length]=⟨a.first,.slice sx a.spans.length sc,.slice ex a.spans.length ec⟩:=by
 have hlen:h.l.length=init.length+1:=by rw [hl];simp
 obtain ⟨g,c,sx,sc,ex,ec,hlv,hc,hs,hi,e1,e2⟩:=h0.rows.seg init.length (by omega)
 have ea:h.l[init.length]'(by omega)=a:=by simp [hl]
 have hf:=(h0.rows.each init.length hi (by omega)).first
 rw [ea] at hs e1 e2 hf
 rw [hlen] at hlv ⊢
 refine ⟨g,c,sx,sc,ex,ec,hlv,by rw [hlv];rfl,hs.spans,hs.ends,hi,?_⟩
 cases hv:vs[init.length] with
 | mk f s e =>
  rw [hv] at e1 e2 hf
  simp only at e1 e2 hf
  rw [e1,e2,hf]
set_option maxHeartbeats 4000000 in
theorem hsync_any (h0:HS w0 X H w v d j h) (hrun:h.runs d) (he:LEnv w0) (hbd:SgsBnd h.l) :
  Calls Tryz.prog 22 #[.pointer (some ⟨j,0,none⟩)] w fun e w' => e=.returned (.int .i64 (syncP d h).1)∧HS w0 X H w' v (syncP d h).2.2 j (syncP d h).2.1∧HK X H w w':=by
 have HR:=Lib.hid (hruns_any h0)
 rw [if_pos hrun] at HR
 obtain ⟨lv,vs,ho⟩:=h0.open_
 have HH:=Lib.hid ho
 have HL:=Lib.hid (fun (W:World) (hW:Below w.heap.size w W) => hend_any (ho.below hW).blk (ho.below hW).rows hbd.many)
 obtain ⟨bd,rfl⟩:=h0.ptr
 rcases List.eq_nil_or_concat h.l with hl | ⟨init,a,hl⟩
 · have hq:syncP d h=(0,h,d):=by unfold syncP;rw [hl];rfl
   rw [hq]
   rw [hl] at HL
   have e0:lastPtr lv ([]:List Sg).length=.pointer none:=lastPtr_nil lv
   rw [e0] at HL
   clear h0 hrun he hbd ho hl hq e0
   go_enter Tryz.func22,Tryz.ntmps22
   go_wp2_with fail
   refine HR.out.mono ?_
   rintro e w1 ⟨rfl,hb1⟩
   have HB:=Lib.hid hb1
   clear hb1
   go_wp2_with fail
   refine (HL.out w1 HB.out).mono ?_
   rintro e w2 ⟨rfl,hb2⟩
   have HB2:=Lib.hid (HB.out.trans (hb2.mono HB.out.size))
   clear hb2
   go_wp2_with fail
   go_ret
   exact ⟨rfl,(HH.out.below HB2.out).hs,HK.below HB2.out⟩
 · rw [List.concat_eq_append] at hl
   have hq:syncP d h=((d.sync (ln a.first)).1,h.told (d.sync (ln a.first)).1,(d.sync (ln a.first)).2):=by unfold syncP;rw [hl,getLast_snoc]
   rw [hq]
   obtain ⟨g,c,sx,sc,ex,ec,hlv,hlp,_,_,hi,hvs⟩:=ho.last hl
   rw [hlp] at HL
   have hf9:=hbd.first a (by rw [hl];simp)
   have HNM:=Lib.hid (fun (W:World) (hW:Below w0.heap.size w0 W) => segName_any (he.below hW) hf9 sx ex a.spans.length sc a.spans.length ec)
   unfold segVal at HNM
   obtain ⟨z,hz⟩:∃ z,z=d.sync (ln a.first):=⟨_,rfl⟩
   obtain ⟨r,d1⟩:=z
   rw [← hz]
   have HSY:=Lib.hid (fun (W:World) (hW:Live w0 X W (.pointer (some ⟨bd,0,none⟩)) d) => hW.syncK (lnB a.first) (lnB_data _) hz.symm (by have:=lnB_size hf9;omega))
   have HTC:=Lib.hid (fun (W:World) (D:Dk) (hh:Hl) (x:HO w0 X H W (.pointer (some ⟨bd,0,none⟩)) D j hh lv vs) => by
    have:=x.cells hlv init.length hi
    rw [hvs] at this
    exact this)
   obtain ⟨n,hn⟩:∃ n,n=init.length:=⟨_,rfl⟩
   obtain ⟨fn,hfn⟩:∃ fn,fn=a.first:=⟨_,rfl⟩
   obtain ⟨sn,hsn⟩:∃ sn,sn=a.spans.length:=⟨_,rfl⟩
   simp only [← hn,← hfn,← hsn] at HL HNM HSY HTC
   clear h0 hrun he hbd ho hl hq hlv hlp hvs hi hz hn hfn hsn hf9
   go_enter Tryz.func22,Tryz.ntmps22
   go_wp2_with fail
   refine HR.out.mono ?_
   rintro e w1 ⟨rfl,hb1⟩
   have HB:=Lib.hid hb1
   clear hb1
   go_wp2_with fail
   refine (HL.out w1 HB.out).mono ?_
   rintro e w2 ⟨rfl,hb2⟩
   have HO2:=Lib.hid (HH.out.below (HB.out.trans (hb2.mono HB.out.size)))
   have HC2:=Lib.hid (HK.below (X:=X) (H:=H) (HB.out.trans (hb2.mono HB.out.size)))
   clear hb2
   go_wp2_with fail
   refine wp_region_two (T:=fun W => W.cell? ⟨j,0,none⟩=some (.pointer (some ⟨bd,0,none⟩))∧W.cell? ⟨g,n*3,none⟩=some (.int .i64 fn)∧W.cell? ⟨g,n*3+1,none⟩=some (.slice sx sn sc)∧W.cell? ⟨g,n*3+2,none⟩=some (.slice ex sn ec)) (S:=fun _ => True) (n:=99) (by kernel_rfl) ?_
   obtain ⟨y1,hy1⟩:∃ y1,y1=(w2).drew:=⟨_,rfl⟩
   rw [← hy1]
   have hby:Below (w2).heap.size w2 y1:=by rw [hy1];exact (Below.refl _ _).drew
   have HOy1:=Lib.hid (HO.below HO2.out hby)
   have HCy1:=Lib.hid (HK.trans HC2.out (HK.below hby))
   have hS:True:=trivial
   have hT:=HTC.out y1 _ _ HOy1.out
   clear hy1 hby
   refine tk 0 16 hT hS ?_
   refine tk 1 17 hT hS ?_
   try simp only [xq]
   refine tk 2 18 hT hS ?_
   refine tk 3 19 hT hS ?_
   try simp only [xq]
   refine tk 4 20 hT hS ?_
   refine tk 5 21 hT hS ?_
   try simp only [xq]
   refine tk 6 22 hT hS ?_
   refine tk 7 23 hT hS ?_
   try simp only [xq]
   refine two_one 8 rfl (by kernel_rfl) ?_
   intro K hK
   go_simp
   refine (HNM.out y1 (HOy1.out.live.below)).mono ?_
   rintro e y2 ⟨rfl,hbz⟩
   have HOy2:=Lib.hid (HO.below HOy1.out hbz)
   have HCy2:=Lib.hid (HK.trans HCy1.out (HK.below hbz))
   have hT1:=HTC.out y2 _ _ HOy2.out
   refine hK.out _ _ hT1 (fun _ _ => hS) ?_
   clear hK K hT hbz
   have hT:=hT1
   clear hT1
   try simp only [xq]
   refine two_one 9 rfl (by kernel_rfl) ?_
   intro K hK
   go_simp
   refine (HSY.out y2 HOy2.out.live).mono ?_
   rintro e y3 ⟨rfl,hlz,hkz⟩
   have HOy3:=Lib.hid (HO.turn HOy2.out hlz hkz)
   have HCy3:=Lib.hid (HK.trans HCy2.out (HK.keeps hkz))
   have hT1:=HTC.out y3 _ _ HOy3.out
   refine hK.out _ _ hT1 (fun _ _ => hS) ?_
   clear hK K hT hlz hkz
   have hT:=hT1
   clear hT1
   try simp only [xq]
   refine two_one 10 rfl (by kernel_rfl) ?_
   intro K hK
   go_simp
   refine (hdoes_at HOy3.out _).mono ?_
   rintro e y4 ⟨rfl,hoz,hkz⟩
   have HOy4:=Lib.hid hoz
   have HCy4:=Lib.hid (HK.trans HCy3.out hkz)
   have hT1:=HTC.out y4 _ _ HOy4.out
   refine hK.out _ _ hT1 (fun _ _ => hS) ?_
   clear hK K hT hoz hkz
   have hT:=hT1
   clear hT1
   try simp only [xq]
   refine tk 11 2 hT hS ?_
   try simp only [xq]
   refine two_done (by kernel_rfl) ?_ _
   clear hT hS
   go_wp2_with fail
   go_ret
   exact ⟨rfl,HOy4.out.hs,HCy4.out⟩
end
end Go.Proofs.YtdacanghbepjpaaGreatDoor

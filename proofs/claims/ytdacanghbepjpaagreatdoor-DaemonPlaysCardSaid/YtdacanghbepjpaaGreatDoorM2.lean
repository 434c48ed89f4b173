/- Small words for what a call leaves as it was: 'Chg S w w'': only blocks of S, and new ones, may have turned. A file's number as its name: plainly. Plain facts on checksums (Adler-32) as functions on lists of bytes: no program in sight. Plain facts on frames as functions on lists of bytes: no program in sight. A disk in plain Lean: files by their names, rising; what each of its methods answers and leaves. No program in sight. A host's log on its disk, plainly: its segments, their files, what a crash leaves of them. No program in sight. What is done with a host's log, plainly, and what becomes of its files. No program in sight. A cursor's file on a disk: what is loaded, what a save comes to: plainly. No program in sight. -/
import Derived.Test.YtdacanghbepjpaaGreatDoorRows
import Derived.Test.YtdacanghbepjpaaGreatDoorM1
import Derived.WalkKit
import Derived.WalkSpells
import Derived.WalkLawsBesides
import Derived.Lib.Hide
import Derived.Lib.BufferRead
import Derived.Lib.AppendStr
import Derived.Laws.BitsAllLaws
import Derived.Lib.Atoi
import Derived.Lib.ItoaNum
import Derived.Lib.Strings
import Derived.Maps.Views
import Derived.Maps.Ext
import Derived.Sort.KeysCollected
namespace Go.Proofs.YtdacanghbepjpaaGreatDoor
open Go.RowKit
structure Chg (S:Nat→Prop) (w w':World):Prop where
 os:w'.os=w.os
 tape:w'.tape=w.tape
 output:w'.output=w.output
 size:w.heap.size≤w'.heap.size
 block:∀ k,k<w.heap.size→¬ S k→w'.heap[k]?=w.heap[k]?
theorem Chg.refl (S:Nat→Prop) (w:World):Chg S w w:=⟨rfl,rfl,rfl,Nat.le_refl _,fun _ _ _ => rfl⟩
theorem Chg.trans {S:Nat→Prop} {a b c:World} (h:Chg S a b) (k:Chg S b c):Chg S a c :=
 ⟨k.os.trans h.os,k.tape.trans h.tape,k.output.trans h.output,Nat.le_trans h.size k.size,fun i hi hs => (k.block i (Nat.lt_of_lt_of_le hi h.size) hs).trans (h.block i hi hs)⟩
theorem Chg.mono {S T:Nat→Prop} {w w':World} (h:Chg S w w') (hST:∀ k,k<w.heap.size→S k→T k):Chg T w w' :=
 ⟨h.os,h.tape,h.output,h.size,fun i hi hs => h.block i hi fun hk => hs (hST i hi hk)⟩
theorem Chg.drew {S:Nat→Prop} {a w:World} (h:Chg S a w):Chg S a w.drew:=⟨h.os,h.tape,h.output,h.size,h.block⟩
theorem Chg.drewN {S:Nat→Prop} {a w:World} (h:Chg S a w) (n:Nat):Chg S a (w.drewN n):=⟨h.os,h.tape,h.output,h.size,h.block⟩
theorem Chg.setCell {S:Nat→Prop} {a w:World} (h:Chg S a w) {p:Addr} (hp:p.block<a.heap.size→S p.block) (u:Value):Chg S a (w.setCell p u) :=
 ⟨h.os,h.tape,h.output,by have:=h.size;simp [World.setCell];omega,fun i hi hs => (Below.heap_setCell _ _ _ _ (fun e => hs (by rw [e];exact hp (by omega)))).trans (h.block i hi hs)⟩
theorem Chg.of_below {S:Nat→Prop} {w w':World} (h:Below w.heap.size w w'):Chg S w w':=⟨h.os,h.tape,h.output,h.size,fun k hk _ => h.block k hk⟩
theorem Chg.below {S:Nat→Prop} {w w':World} (h:Chg S w w') {B:Nat} (hB:B≤w.heap.size) (hS:∀ k,k<B→¬ S k):Below B w w' :=
 ⟨h.os,h.tape,h.output,h.size,fun k hk => h.block k (by omega) (hS k hk)⟩
theorem below_chg {B:Nat} {a b c:World} {S:Nat→Prop} (h:Below B a b) (hB:B≤b.heap.size) (k:Chg S b c) (hS:∀ i,i<B→¬ S i):Below B a c:=h.trans (k.below hB hS)
theorem Chg.cell {S:Nat→Prop} {w w':World} (h:Chg S w w') {p:Addr} (hp:p.block<w.heap.size) (hs:¬ S p.block):w'.cell? p=w.cell? p:=World.cell?_of_block (w:=w) (h.block p.block hp hs)
def Blk (w:World) (b:Nat) (t:TypeId) (cs:Array Value):Prop:=w.heap[b]?=some (.cells cs t (0,0))
theorem Blk.lt {w:World} {b:Nat} {t:TypeId} {cs:Array Value} (h:Blk w b t cs):b<w.heap.size:=by
 rcases Nat.lt_or_ge b w.heap.size with hlt | hge
 · exact hlt
 · unfold Blk at h;rw [Array.getElem?_eq_none hge] at h;cases h
theorem Blk.cell {w:World} {b:Nat} {t:TypeId} {cs:Array Value} (h:Blk w b t cs) (i:Nat):w.cell? ⟨b,i,none⟩=cs[i]?:=by
 unfold Blk at h;simp [World.cell?,h]
theorem Blk.free {w:World} {b:Nat} {t:TypeId} {cs:Array Value} (h:Blk w b t cs) (i:Nat):w.frozen? ⟨b,i,none⟩=false:=by
 unfold Blk at h;simp [World.frozen?,h]
theorem Blk.alloc_new (w:World) (t:TypeId) (cs:Array Value):Blk (w.alloc (.cells cs t (0,0))) w.heap.size t cs:=by
 unfold Blk;show (w.heap.push _)[w.heap.size]?=_;rw [Array.getElem?_push_size]
theorem Blk.drewN {w:World} {b:Nat} {t:TypeId} {cs:Array Value} (h:Blk w b t cs) (n:Nat):Blk (w.drewN n) b t cs:=h
theorem Blk.set {w:World} {b:Nat} {t:TypeId} {cs:Array Value} (h:Blk w b t cs) (i:Nat) (u:Value):Blk (w.setCell ⟨b,i,none⟩ u) b t (cs.setIfInBounds i u):=by
 have hl:=h.lt
 unfold Blk at *
 simp only [World.setCell,Array.getElem?_modify,if_true,h,Option.map_some]
 rfl
def byteV (c:UInt8):Value:=.int .u8 c.toNat
def OwnB (w:World) (B:Nat) (v:Value) (l:List UInt8):Prop:=w.ownsRow B 5 1 v l.length (l.map byteV)
theorem OwnB.nil (w:World) (B:Nat):OwnB w B (.slice none 0 0) []:=World.ownsRow_nil w B _ 1
theorem OwnB.form {w:World} {B:Nat} {v:Value} {l:List UInt8} (h:OwnB w B v l) :
  (v=.slice none 0 0∧l=[])∨∃ g cap,v=.slice (some ⟨g,0,none⟩) l.length cap∧B≤g∧g<w.heap.size∧∀ j (hj:j<l.length),w.cell? ((⟨g,0,none⟩:Addr).add j)=some (.int .u8 (l[j].toNat:Int)):=by
 obtain ⟨_,h | ⟨g,cap,cur,hv,hg,hh,hn,hm,hs,ht⟩⟩:=h
 · exact .inl ⟨h.1,List.length_eq_zero_iff.1 h.2⟩
 · refine .inr ⟨g,cap,hv,hg,?_,?_⟩
   · rcases Nat.lt_or_ge g w.heap.size with hlt | hge
     · exact hlt
     · rw [Array.getElem?_eq_none hge] at hh;cases hh
   · exact Lib.bytes_of_row hh (by rw [Nat.mul_one] at ht;exact ht)
theorem under_bytes:Tryz.prog.underlying 78=some (.slice 5):=by kernel_rfl
theorem under_byte:Tryz.prog.underlying 5=some (.int .u8):=by kernel_rfl
theorem under_string:Tryz.prog.underlying 9=some .string:=by kernel_rfl
theorem OwnB.text {w:World} {B:Nat} {v:Value} {l:List UInt8} (h:OwnB w B v l):(convert 78 9 v).run Tryz.prog w=.ok (.string ⟨l.toArray⟩) w:=by
 rcases h.form with ⟨rfl,rfl⟩ | ⟨g,cap,rfl,_,_,hc⟩
 · exact Lib.run_convert_nil_bytes w _ _ _ 0 under_bytes under_byte under_string
 · exact run_convert_bytes_back w _ _ _ _ _ _ under_bytes under_byte under_string hc
theorem Tryz.info_u8:(Tryz.prog.info? 5).map (fun i => (i.zero,i.size,i.bytes))=some (some (.int .u8 0),1,1):=by kernel_rfl
theorem OwnB.below {w:World} {B:Nat} {v:Value} {l:List UInt8} (h:OwnB w B v l) {w':World} (hg:w.grownBy w' v.ownBlock) (hB:B≤w.heap.size):Below B w w' :=
 (Below.refl _ _).grown hg hB fun k hk => ((World.ownsRow.lt h) k hk).1
theorem wpList_append_byte {ops:Array Oper} {rest:List Oper} {o:Oper} {a:Act} {Q:Exit→Act→World→Prop} {w:World} (hgd:o.guard=none) (s x:Operand)
  (ho:o.op=.call { callee:=.builtin .append,args:=#[s,x],argTypes:=#[78,78] })
  (B:Nat) (v:Value) (l:List UInt8) (hs:a.eval s=v) (hown:OwnB w B v l) (g:Nat) (hx:a.eval x=.slice (some ⟨g,0,none⟩) 1 1) (c:Int) (hc:w.cell? ⟨g,0,none⟩=some (.int .u8 c)) (d:UInt8) (hd:(d.toNat:Int)=c)
  (hl:l.length+1≤140737488355328) (hB:B≤w.heap.size)
  (h:∀ v' w',OwnB w' B v' (l++[d])→Below B w w'→wpList Tryz.prog ops Q rest (a.put o.dst v') w'):wpList Tryz.prog ops Q (o::rest) a w:=by
 obtain ⟨i0,hi,hz0,hz1,hz2⟩:=info_parts Tryz.info_u8
 refine wpList_append_own _ hgd s x 78 ho B 5 i0 (.int .u8 0) 1 1 under_bytes hi hz0 hz1 hz2 rfl (by decide) v l.length (l.map byteV) hs hown ⟨g,0,none⟩ 1 1 [byteV d] hx rfl ?_ ?_ ?_ ?_ hB ?_
 · intro j u hj
   match j,hj with
   | 0,hj => simp at hj;subst hj;simpa [byteV,hd,Addr.add] using hc
   | (n+1),hj => simp at hj
 · intro u hu;simp at hu;subst hu;rfl
 · unfold maxLen;omega
 · omega
 · intro v' w' h1 h2 _
   refine h v' w' ?_ (hown.below h2 hB)
   unfold OwnB
   rw [List.length_append,List.map_append]
   exact h1
theorem OwnB.alloc {w:World} {B:Nat} {v:Value} {l:List UInt8} (h:OwnB w B v l) (o:Obj):OwnB (w.alloc o) B v l:=World.ownsRow.alloc h o
theorem Blk.ext {w:World} {b:Nat} {t:TypeId} {cs:Array Value} (h:Blk w b t cs) (x:Ext w):Blk x.wd b t cs:=by
 have hl:=h.lt
 unfold Blk at *;rw [x.le.block b hl,h]
theorem Blk.below {w w':World} {b:Nat} {t:TypeId} {cs:Array Value} (h:Blk w b t cs) (x:Below w.heap.size w w'):Blk w' b t cs:=h.ext ⟨w',x⟩
theorem Blk.chg {w w':World} {b:Nat} {t:TypeId} {cs:Array Value} {S:Nat→Prop} (h:Blk w b t cs) (x:Chg S w w') (hS:¬ S b):Blk w' b t cs:=by
 have hl:=h.lt
 unfold Blk at *;rw [x.block b hl hS,h]
theorem wpList_append_bytes {ops:Array Oper} {rest:List Oper} {o:Oper} {a:Act} {Q:Exit→Act→World→Prop} {w:World} (hgd:o.guard=none) (s x:Operand)
  (ho:o.op=.call { callee:=.builtin .append,args:=#[s,x],argTypes:=#[78,78] })
  (B:Nat) (v:Value) (l:List UInt8) (hs:a.eval s=v) (hown:OwnB w B v l) (g m c:Nat) (hx:a.eval x=.slice (some ⟨g,0,none⟩) m c) (news:List UInt8) (hm:news.length=m)
  (hc:∀ j (hj:j<news.length),w.cell? ⟨g,j,none⟩=some (.int .u8 (news[j].toNat:Int)))
  (hl:l.length+m≤140737488355328) (hB:B≤w.heap.size)
  (h:∀ v' w',OwnB w' B v' (l++news)→Below B w w'→wpList Tryz.prog ops Q rest (a.put o.dst v') w'):wpList Tryz.prog ops Q (o::rest) a w:=by
 obtain ⟨i0,hi,hz0,hz1,hz2⟩:=info_parts Tryz.info_u8
 subst hm
 refine wpList_append_own _ hgd s x 78 ho B 5 i0 (.int .u8 0) 1 1 under_bytes hi hz0 hz1 hz2 rfl (by decide) v l.length (l.map byteV) hs hown ⟨g,0,none⟩ news.length c (news.map byteV) hx (by simp) ?_ ?_ ?_ ?_ hB ?_
 · intro j u hj
   have hj':j<news.length:=by
    have:=(List.getElem?_eq_some_iff.1 hj).1
    simpa using this
   have e:(⟨g,0,none⟩:Addr).add j=⟨g,j,none⟩:=by unfold Addr.add;split <;> simp_all
   rw [e,hc j hj']
   simp [hj'] at hj
   rw [← hj];rfl
 · intro u hu
   obtain ⟨x,_,rfl⟩:=List.mem_map.1 hu
   rfl
 · unfold maxLen;omega
 · omega
 · intro v' w' h1 h2 _
   refine h v' w' ?_ (hown.below h2 hB)
   unfold OwnB
   rw [List.length_append,List.map_append]
   exact h1
theorem wpList_append_text {ops:Array Oper} {rest:List Oper} {o:Oper} {a:Act} {Q:Exit→Act→World→Prop} {w:World} (hgd:o.guard=none) (sl x:Operand)
  (ho:o.op=.call { callee:=.builtin .append,args:=#[sl,x],argTypes:=#[78,9] })
  (B:Nat) (v:Value) (l:List UInt8) (hs:a.eval sl=v) (hown:OwnB w B v l) (s:ByteArray) (hx:a.eval x=.string s)
  (hl:l.length+s.size≤140737488355328) (hB:B≤w.heap.size)
  (h:∀ v' w',OwnB w' B v' (l++s.data.toList)→Below B w w'→wpList Tryz.prog ops Q rest (a.put o.dst v') w'):wpList Tryz.prog ops Q (o::rest) a w:=by
 obtain ⟨i0,hi,hz0,hz1,hz2⟩:=info_parts Tryz.info_u8
 refine Lib.wpList_append_own_string w hgd sl x 78 9 ho B 5 i0 under_bytes under_string hi hz0 hz1 hz2 v l.length (l.map byteV) hs hown s hx (by unfold maxLen;omega) hl hB ?_
 intro v' w' h1 h2 _
 refine h v' w' ?_ (hown.below h2 hB)
 unfold OwnB
 rw [List.length_append,List.map_append,show s.data.toList.length=s.size by simp]
 exact h1
theorem wpList_make_bytes {ops:Array Oper} {rest:List Oper} {o:Oper} {a:Act} {Q:Exit→Act→World→Prop} {w:World} (hg:o.guard=none) (l c:Operand) (hop:o.op=Op.makeSlice 78 l c)
  (B:Nat) (kl kc:IntKind) (C:Int) (n:Nat) (hl:a.eval l=.int kl 0) (hc:a.eval c=.int kc C) (hC:C=(n:Int)) (b2:n≤281474976710656) (b4:B≤w.heap.size)
  (hK:∀ v' w',OwnB w' B v' []→Below B w w'→wpList Tryz.prog ops Q rest (a.put o.dst v') w'):wpList Tryz.prog ops Q (o::rest) a w:=by
 obtain ⟨i0,hi,hz0,hz1,hz2⟩:=info_parts Tryz.info_u8
 refine wpList_make_own w hg l c 78 hop B 5 i0 (.int .u8 0) 1 under_bytes hi hz0 hz1 kl kc C n hl hc hC (by rw [hz2];omega) (by unfold maxLen;omega) b4 ?_
 intro w' h1 h2
 exact hK _ w' h1 ((Below.refl _ _).grown h2 b4 fun k hk => by cases hk)
theorem madeCells_one (n:Nat):(madeCells (Value.int .u8 0).cells n).toList=List.replicate n (byteV 0):=by
 rw [List.eq_replicate_iff]
 refine ⟨by simp [madeCells],fun b hb => ?_⟩
 unfold madeCells at hb
 simp [Value.cells,Nat.mod_one] at hb
 obtain ⟨_,_,rfl⟩:=hb
 rfl
theorem wpList_make_full_bytes {ops:Array Oper} {rest:List Oper} {o:Oper} {a:Act} {Q:Exit→Act→World→Prop} {w:World} (hg:o.guard=none) (l c:Operand) (hop:o.op=Op.makeSlice 78 l c)
  (B:Nat) (kl kc:IntKind) (L C:Int) (n:Nat) (hl:a.eval l=.int kl L) (hc:a.eval c=.int kc C) (hL:L=(n:Int)) (hC:C=(n:Int)) (b2:n≤281474976710656) (b4:B≤w.heap.size)
  (hK:∀ v' w',OwnB w' B v' (List.replicate n 0)→Below w.heap.size w w'→wpList Tryz.prog ops Q rest (a.put o.dst v') w'):wpList Tryz.prog ops Q (o::rest) a w:=by
 obtain ⟨i0,hi,hz0,hz1,hz2⟩:=info_parts Tryz.info_u8
 refine wpList_make_full w hg l c 78 hop B 5 i0 (.int .u8 0) 1 under_bytes hi hz0 hz1 kl kc L C n hl hc hL hC (by rw [hz2];omega) (by unfold maxLen;omega) b4 ?_
 intro w' h1 h2
 refine hK _ w' ?_ ((Below.refl _ _).grown h2 (Nat.le_refl _) fun k hk => by cases hk)
 unfold OwnB
 rw [List.length_replicate,List.map_replicate]
 have e:(madeCells (Value.int .u8 0).cells (n*1)).toList=List.replicate n (byteV 0):=by
  rw [Nat.mul_one]
  exact madeCells_one n
 rw [← e];exact h1
theorem wpList_own_text {ops:Array Oper} {rest:List Oper} {o:Oper} {a:Act} {Q:Exit→Act→World→Prop} {w:World} (hgd:o.guard=none) (x:Operand)
  (ho:o.op=.convert 78 9 x) (B:Nat) (v:Value) (l:List UInt8) (hx:a.eval x=v) (hown:OwnB w B v l)
  (h:wpList Tryz.prog ops Q rest (a.put o.dst (.string ⟨l.toArray⟩)) w):wpList Tryz.prog ops Q (o::rest) a w :=
 wpList_plain hgd fun K hK => by
  unfold Oper.wp
  have e:(execOp a.eval o).run Tryz.prog w=.ok (.value (.string ⟨l.toArray⟩)) w:=by
   have hr:=hown.text
   simp only [execOp,ho,hx]
   rw [Sem.run_bind,hr]
   rfl
  rw [e]
  exact hK _ _ h
def BRow (w:World) (b:Nat) (l:List UInt8):Prop:=∃ cs e lo hi,w.heap[b]?=some (.cells cs e (lo,hi))∧(l.length≤lo∨hi=0)∧∀ j (hj:j<l.length),cs[j]?=some (.int .u8 (l[j].toNat:Int))
theorem BRow.lt {w:World} {b:Nat} {l:List UInt8} (h:BRow w b l):b<w.heap.size:=by
 obtain ⟨cs,e,lo,hi,h,_⟩:=h
 rcases Nat.lt_or_ge b w.heap.size with hlt | hge
 · exact hlt
 · rw [Array.getElem?_eq_none hge] at h;cases h
theorem BRow.cell {w:World} {b:Nat} {l:List UInt8} (h:BRow w b l) (j:Nat) (hj:j<l.length):w.cell? ⟨b,j,none⟩=some (.int .u8 (l[j].toNat:Int)):=by
 obtain ⟨cs,e,lo,hi,h,_,hc⟩:=h
 simp [World.cell?,h,hc j hj]
theorem BRow.free {w:World} {b:Nat} {l:List UInt8} (h:BRow w b l) (j:Nat) (hj:j<l.length):w.frozen? ⟨b,j,none⟩=false:=by
 obtain ⟨cs,e,lo,hi,h,hf,hc⟩:=h
 simp only [World.frozen?,h]
 rcases hf with hf | rfl
 · simp;omega
 · simp
theorem BRow.set {w:World} {b:Nat} {l:List UInt8} (h:BRow w b l) (i:Nat) (c:UInt8):BRow (w.setCell ⟨b,i,none⟩ (.int .u8 c.toNat)) b (l.set i c):=by
 obtain ⟨cs,e,lo,hi,h,hf,hc⟩:=h
 refine ⟨cs.setIfInBounds i (.int .u8 c.toNat),e,lo,hi,?_,by simpa using hf,?_⟩
 · simp only [World.setCell,Array.getElem?_modify,if_true,h,Option.map_some]
   rfl
 · intro j hj
   have hj':j<l.length:=by simpa using hj
   have:=hc j hj'
   have hlt:j<cs.size:=(Array.getElem?_eq_some_iff.1 this).1
   by_cases hij:i=j
   · subst hij
     simp [hlt]
   · rw [Array.getElem?_setIfInBounds_ne hij,this,List.getElem_set_ne hij]
theorem BRow.text {w:World} {b:Nat} {l:List UInt8} (h:BRow w b l) (cap:Nat):(convert 78 9 (.slice (some ⟨b,0,none⟩) l.length cap)).run Tryz.prog w=.ok (.string ⟨l.toArray⟩) w :=
 run_convert_bytes_back w _ _ _ _ _ _ under_bytes under_byte under_string fun j hj => by
  have e:(⟨b,0,none⟩:Addr).add j=⟨b,j,none⟩:=by unfold Addr.add;split <;> simp_all
  rw [e];exact h.cell j hj
theorem BRow.textn {w:World} {b:Nat} {l:List UInt8} (h:BRow w b l) (cap n:Nat) (hn:l.length=n):(convert 78 9 (.slice (some ⟨b,0,none⟩) n cap)).run Tryz.prog w=.ok (.string ⟨l.toArray⟩) w:=by
 subst hn;exact h.text cap
theorem wpList_runs {P:Program} {ops:Array Oper} {rest:List Oper} {o:Oper} {a:Act} {Q:Exit→Act→World→Prop} {w w':World} {v:Value} (hgd:o.guard=none)
  (hr:(execOp a.eval o).run P w=.ok (.value v) w') (h:wpList P ops Q rest (a.put o.dst v) w'):wpList P ops Q (o::rest) a w :=
 wpList_plain hgd fun K hK => by
  unfold Oper.wp
  rw [hr]
  exact hK _ _ h
theorem wpList_text_of {ops:Array Oper} {rest:List Oper} {o:Oper} {a:Act} {Q:Exit→Act→World→Prop} {w:World} (hgd:o.guard=none) (x:Operand)
  (ho:o.op=.convert 78 9 x) (b n cap:Nat) (hx:a.eval x=.slice (some ⟨b,0,none⟩) n cap) (l:List UInt8) (hl:l.length=n) (hb:BRow w b l)
  (h:wpList Tryz.prog ops Q rest (a.put o.dst (.string ⟨l.toArray⟩)) w):wpList Tryz.prog ops Q (o::rest) a w :=
 wpList_runs hgd (v:=.string ⟨l.toArray⟩) (by
  have hr:=hb.textn cap n hl
  simp only [execOp,ho,hx]
  rw [Sem.run_bind,hr]
  rfl) h
theorem OwnB.kept {w w':World} {B:Nat} {v:Value} {l:List UInt8} (h:OwnB w B v l) (x:Below w.heap.size w w'):OwnB w' B v l:=by
 have hlt:=World.ownsRow.lt h
 obtain ⟨h1,h2⟩:=h
 refine ⟨h1,?_⟩
 rcases h2 with h2 | ⟨g,cap,cur,hv,hg,hh,r⟩
 · exact .inl h2
 · refine .inr ⟨g,cap,cur,hv,hg,?_,r⟩
   rw [x.block g (hlt g (by rw [hv];rfl)).2,hh]
theorem one_cell (w:World) (c:UInt8) (k:Int) (hk:(c.toNat:Int)=k) (j:Nat) (hj:j<[c].length):(w.alloc (.cells #[.int .u8 k] 5)).cell? ⟨w.heap.size,j,none⟩=some (.int .u8 ([c][j].toNat:Int)):=by
 rw [(Blk.alloc_new w _ _).cell j]
 obtain rfl:j=0:=by simpa using hj
 simp [hk]
theorem extract_list (s:ByteArray) (a b:Nat):(s.extract a b).data.toList=(s.data.toList.drop a).take (b-a):=by
 rw [ByteArray.data_extract,Array.toList_extract,List.extract_eq_take_drop]
theorem data_append (a b:ByteArray):(a++b).data.toList=a.data.toList++b.data.toList:=by rw [ByteArray.data_append,Array.toList_append]
theorem bytes_ext {a b:ByteArray} (h:a.data.toList=b.data.toList):a=b:=by
 obtain ⟨⟨a⟩⟩:=a;obtain ⟨⟨b⟩⟩:=b;simp at h;rw [h]
end Go.Proofs.YtdacanghbepjpaaGreatDoor
namespace Go.Proofs.YtdacanghbepjpaaGreatDoor
set_option linter.unusedSimpArgs false
set_option linter.unusedVariables false
theorem decFrom_append:∀ (a b:List UInt8) (acc:Nat),Lib.decFrom acc (a++b)=(Lib.decFrom acc a).bind fun m => Lib.decFrom m b
 | [],b,acc => rfl
 | x::a,b,acc => by
  simp only [List.cons_append,Lib.decFrom]
  cases Lib.digitVal x with
  | none => rfl
  | some d => exact decFrom_append a b _
theorem digit_val {d:Nat} (h:d<10):Lib.digitVal (UInt8.ofNat (48+d))=some d:=by
 unfold Lib.digitVal
 have:(UInt8.ofNat (48+d)).toNat=48+d:=by rw [UInt8.toNat_ofNat'];omega
 rw [this,if_pos (by omega)]
 congr 1
 omega
theorem digits_from:∀ (f u:Nat),u≤f→Lib.decFrom 0 (Lib.decDigits u)=some u∧∃ b r,Lib.decDigits u=b::r∧48≤b.toNat
 | f,u,hf => by
  by_cases h:u<10
  · rw [Lib.decDigits_one h]
    refine ⟨?_,_,_,rfl,?_⟩
    · simp only [Lib.decFrom,digit_val h];simp
    · rw [UInt8.toNat_ofNat'];omega
  · cases f with
    | zero => omega
    | succ f =>
     obtain ⟨h1,b,r,h2,h3⟩:=digits_from f (u / 10) (by omega)
     rw [Lib.decDigits,dif_neg h]
     refine ⟨?_,b,r++[UInt8.ofNat (48+u % 10)],by rw [h2];rfl,h3⟩
     rw [decFrom_append,h1]
     simp only [Option.bind_some,Lib.decFrom,digit_val (show u % 10<10 by omega)]
     congr 1
     omega
theorem digits_len:∀ (k u:Nat),u<10 ^ (k+1)→(Lib.decDigits u).length≤k+1
 | 0,u,h => by rw [Lib.decDigits_one (by simpa using h)];simp
 | k+1,u,h => by
  by_cases h10:u<10
  · rw [Lib.decDigits_one h10];simp
  · rw [Lib.decDigits,dif_neg h10,List.length_append]
    have:=digits_len k (u / 10) (by rw [Nat.pow_succ] at h;omega)
    simp only [List.length_cons,List.length_nil]
    omega
theorem atoi_digits (n:Nat):Lib.atoi (Lib.decDigits n)=some (n:Int):=by
 obtain ⟨h1,b,r,h2,h3⟩:=digits_from n n (Nat.le_refl _)
 rw [h2] at h1 ⊢
 unfold Lib.atoi
 have n1:(b == 45)=false:=by rw [beq_eq_false_iff_ne];intro e;subst e;exact absurd h3 (by decide)
 have n2:(b == 43)=false:=by rw [beq_eq_false_iff_ne];intro e;subst e;exact absurd h3 (by decide)
 simp only [n1,n2,Bool.false_eq_true,if_false,Lib.decNat,List.isEmpty_cons,h1,Option.map_some]
def jn (n:Nat):List UInt8:=106::Lib.decDigits n
def decB (n:Nat):ByteArray:=⟨(Lib.decDigits n).toArray⟩
end Go.Proofs.YtdacanghbepjpaaGreatDoor
namespace Adl
def upd (p:Int×Int) (x:UInt8):Int×Int:=((p.1+x.toNat) % 65521,(p.2+(p.1+x.toNat) % 65521) % 65521)
def run (p:Int×Int) (l:List UInt8):Int×Int:=l.foldl upd p
def parts (s:Int):Int×Int:=(s % 65536 % 65521,s / 65536 % 65521)
def whole (p:Int×Int):Int:=p.2*65536+p.1
def more (s:Int) (l:List UInt8):Int:=whole (run (parts s) l)
def sum (l:List UInt8):Int:=more 1 l
def In (p:Int×Int):Prop:=0≤p.1∧p.1<65521∧0≤p.2∧p.2<65521
theorem In.upd {p:Int×Int} (x:UInt8):In (upd p x):=by unfold In Adl.upd;simp only;omega
theorem In.run {p:Int×Int} (h:In p) (l:List UInt8):In (run p l):=by
 unfold Adl.run
 induction l generalizing p with
 | nil => exact h
 | cons x l ih => exact ih (In.upd x)
theorem In.parts (s:Int):In (parts s):=by unfold In Adl.parts;simp only;omega
theorem In.whole {p:Int×Int} (h:In p):0≤whole p∧whole p<4294967296:=by unfold In at h;unfold Adl.whole;omega
theorem more_in (s:Int) (l:List UInt8):0≤more s l∧more s l<4294967296:=((In.parts s).run l).whole
theorem sum_in (l:List UInt8):0≤sum l∧sum l<4294967296:=more_in 1 l
theorem run_append (p:Int×Int) (a b:List UInt8):run p (a++b)=run (run p a) b:=by unfold run;rw [List.foldl_append]
def S (l:List UInt8):Int:=l.foldr (fun x s => x.toNat+s) 0
def W:List UInt8→Int
 | [] => 0
 | x::l => (l.length+1)*x.toNat+W l
def four (s:Int):List UInt8:=[UInt8.ofNat (s / 16777216).toNat,UInt8.ofNat (s / 65536 % 256).toNat,UInt8.ofNat (s / 256 % 256).toNat,UInt8.ofNat (s % 256).toNat]
end Adl
namespace Frm
def frame (p:List UInt8):List UInt8:=[2,UInt8.ofNat (p.length / 256),UInt8.ofNat (p.length % 256)]++p++Adl.four (Adl.sum p)++[3]
def len16 (d:List UInt8):Nat:=(d[1]?.getD 0).toNat*256+(d[2]?.getD 0).toNat
def nextAt (d:List UInt8):Option (List UInt8) :=
 if len16 d≤16384∧8+len16 d≤d.length∧d.take (8+len16 d)=frame ((d.drop 3).take (len16 d)) then some ((d.drop 3).take (len16 d)) else none
theorem four_length (s:Int):(Adl.four s).length=4:=rfl
theorem frame_length (p:List UInt8):(frame p).length=p.length+8:=by
 unfold frame;simp only [List.length_append,List.length_cons,List.length_nil,four_length];omega
theorem frame_eq (p:List UInt8):frame p=2::UInt8.ofNat (p.length / 256)::UInt8.ofNat (p.length % 256)::(p++(Adl.four (Adl.sum p)++[3])):=by
 unfold frame;simp
theorem len16_frame (p r:List UInt8) (h:p.length≤16384):len16 (frame p++r)=p.length:=by
 rw [frame_eq]
 unfold len16
 simp only [List.cons_append,List.getElem?_cons_succ,List.getElem?_cons_zero,Option.getD_some,UInt8.toNat_ofNat']
 omega
theorem payload_frame (p r:List UInt8):((frame p++r).drop 3).take p.length=p:=by
 rw [frame_eq]
 simp
theorem nextAt_some (d p:List UInt8):nextAt d=some p↔p.length≤16384∧frame p <+: d:=by
 constructor
 · intro h
   unfold nextAt at h
   split at h
   · rename_i hc
     obtain ⟨h1,h2,h3⟩:=hc
     have hp:(d.drop 3).take (len16 d)=p:=by simpa using h
     rw [hp] at h3
     refine ⟨?_,?_⟩
     · rw [← hp];simp only [List.length_take];omega
     · rw [← h3];exact List.take_prefix _ _
   · cases h
 · rintro ⟨h1,r,rfl⟩
   unfold nextAt
   rw [len16_frame p r h1,payload_frame,if_pos]
   refine ⟨h1,?_,?_⟩
   · rw [List.length_append,frame_length];omega
   · have e:8+p.length=(frame p).length:=by rw [frame_length];omega
     rw [e,List.take_left]
theorem nextAt_none (d:List UInt8):nextAt d=none↔∀ p:List UInt8,p.length≤16384→¬ frame p <+: d:=by
 constructor
 · intro h p h1 h2
   rw [(nextAt_some d p).2 ⟨h1,h2⟩] at h
   cases h
 · intro h
   cases hn:nextAt d with
   | none => rfl
   | some p =>
    obtain ⟨h1,h2⟩:=(nextAt_some d p).1 hn
    exact absurd h2 (h p h1)
theorem frame_prefix (p q d:List UInt8) (hp:p.length≤16384) (hq:q.length≤16384) (h1:frame p <+: d) (h2:frame q <+: d):p=q:=by
 have e1:=(nextAt_some d p).2 ⟨hp,h1⟩
 have e2:=(nextAt_some d q).2 ⟨hq,h2⟩
 rw [e1] at e2
 injection e2
/-! ### Where the next frame stands -/
theorem nextAt_short (d:List UInt8) (h:d.length<8):nextAt d=none:=by
 rw [nextAt_none]
 rintro p hp ⟨r,rfl⟩
 rw [List.length_append,frame_length] at h
 omega
/-! ### The payloads with which a text begins -/
def whole:Nat→List UInt8→List (List UInt8)×Nat
 | 0,_ => ([],0)
 | f+1,d => match nextAt d with
  | none => ([],0)
  | some p => let r:=whole f (d.drop (p.length+8));(p::r.1,p.length+8+r.2)
end Frm
namespace Go.Proofs.YtdacanghbepjpaaGreatDoor.Dsk
open Go
abbrev Str:=List UInt8
structure Fl where
 data:Str
 safe:Nat
abbrev Files:=List (Str×Fl)
def ins (x:Str×Fl):Files→Files
 | [] => [x]
 | y::r => if bytesBefore x.1 y.1 then x::y::r else y::ins x r
def del (m:Files) (k:Str):Files:=m.filter fun p => !(p.1 == k)
def put (m:Files) (k:Str) (f:Fl):Files:=ins (k,f) (del m k)
def get (m:Files) (k:Str):Option Fl:=(m.find? fun p => p.1 == k).map (·.2)
def total (m:Files):Nat:=(m.map fun p => p.2.data.length).sum
def names (m:Files):List Str:=m.map (·.1)
def Rising (m:Files):Prop:=m.Pairwise fun p q => bytesBefore p.1 q.1=true
/-! ### as a map's datum -/
section
variable {H:Type}
def encF (f:Fl):DataW H:=.agg [.lit (.string f.data),.lit (.int .i64 f.safe)]
def encP (p:Str×Fl):Lit×DataW H:=(.string p.1,encF p.2)
def encD (m:Files):DataW H:=.map (m.map encP)
theorem encF_inj {f g:Fl} (h:encF (H:=H) f=encF g):f=g:=by
 obtain ⟨a,b⟩:=f;obtain ⟨c,d⟩:=g
 simp [encF] at h
 obtain ⟨rfl,h⟩:=h
 have:b=d:=by omega
 rw [this]
theorem encP_key (p:Str×Fl) (k:Str):(encP (H:=H) p).1.sameKey (.string k)=(p.1 == k):=rfl
theorem encD_del (m:Files) (k:Str):(encD (H:=H) m).del (.string k)=encD (del m k):=by
 show DataW.map ((m.map encP).filter _)=DataW.map ((m.filter _).map encP)
 rw [List.filter_map]
 rfl
theorem insert_enc (x:Str×Fl):∀ m:Files,DataW.insert (encP (H:=H) x) (m.map encP)=(ins x m).map encP
 | [] => rfl
 | y::r => by
  simp only [List.map_cons,DataW.insert,ins]
  have e:(encP (H:=H) x).1.before (encP (H:=H) y).1=bytesBefore x.1 y.1:=rfl
  rw [e]
  split
  · rfl
  · rw [insert_enc x r];rfl
theorem encD_put (m:Files) (k:Str) (f:Fl):(encD (H:=H) m).put (.string k) (encF f)=encD (put m k f):=by
 show DataW.map (DataW.insert _ ((m.map encP).filter _))=DataW.map ((ins (k,f) (m.filter _)).map encP)
 rw [List.filter_map]
 exact congrArg DataW.map (insert_enc (k,f) _)
theorem encD_at (m:Files) (k:Str) (z:DataW H):(encD m).atKey (.string k) z=match get m k with | some f => encF f | none => z:=by
 unfold encD DataW.atKey get
 induction m with
 | nil => rfl
 | cons p r ih =>
  simp only [List.map_cons,List.find?_cons,encP_key]
  cases p.1 == k
  · simpa using ih
  · rfl
theorem encD_has (m:Files) (k:Str):Maps.has (encD (H:=H) m) (.string k)=(get m k).isSome:=by
 unfold encD Maps.has get
 induction m with
 | nil => rfl
 | cons p r ih =>
  simp only [List.map_cons,List.find?_cons,List.any_cons,encP_key]
  cases p.1 == k
  · simpa using ih
  · rfl
theorem encD_size (m:Files):Maps.size (encD (H:=H) m)=m.length:=by simp [encD,Maps.size]
theorem encD_keys (m:Files):strKeys (encD (H:=H) m)=names m:=by simp [encD,strKeys,names,encP,strOf]
end
/-! ### the order -/
theorem before_lt:∀ (a b:Str),bytesBefore a b=true→a<b
 | [],[],h => by simp [bytesBefore] at h
 | [],_::_,_ => List.Lex.nil
 | _::_,[],h => by simp [bytesBefore] at h
 | a::r,b::s,h => by
  simp only [bytesBefore,Bool.or_eq_true,Bool.and_eq_true,decide_eq_true_eq,beq_iff_eq] at h
  rcases h with h | ⟨rfl,h⟩
  · exact List.Lex.rel h
  · exact List.Lex.cons (before_lt r s h)
theorem before_trans {a b c:Str} (h:bytesBefore a b=true) (k:bytesBefore b c=true):bytesBefore a c=true:=WideShapes.bytes_trans a b c h k
theorem before_irrefl (a:Str):bytesBefore a a=false:=WideAt.bytes_irrefl a
theorem before_ne {a b:Str} (h:bytesBefore a b=true):a≠b:=fun e => by rw [e,before_irrefl] at h;cases h
theorem before_total {a b:Str} (h:a≠b):bytesBefore a b=true∨bytesBefore b a=true:=WideAt.bytes_total a b h
theorem mem_ins {x y:Str×Fl}:∀ {m:Files},y∈ins x m↔y=x∨y∈m
 | [] => by simp [ins]
 | z::r => by
  unfold ins
  split
  · simp
  · simp only [List.mem_cons,mem_ins (m:=r)]
    constructor
    · rintro (h | h | h) <;> simp [h]
    · rintro (h | h | h) <;> simp [h]
theorem ins_perm (x:Str×Fl):∀ m:Files,(ins x m).Perm (x::m)
 | [] => List.Perm.refl _
 | z::r => by
  unfold ins
  split
  · exact List.Perm.refl _
  · exact ((ins_perm x r).cons z).trans (List.Perm.swap x z r)
theorem ins_length (x:Str×Fl) (m:Files):(ins x m).length=m.length+1:=by rw [(ins_perm x m).length_eq];rfl
theorem del_sub (m:Files) (k:Str):(del m k).Sublist m:=List.filter_sublist
theorem mem_del {m:Files} {k:Str} {p:Str×Fl}:p∈del m k↔p∈m∧p.1≠k:=by simp [del]
theorem rising_del {m:Files} (h:Rising m) (k:Str):Rising (del m k):=List.Pairwise.sublist (del_sub m k) h
theorem rising_ins {x:Str×Fl}:∀ {m:Files},Rising m→(∀ p∈m,p.1≠x.1)→Rising (ins x m)
 | [],_,_ => by simp [ins,Rising]
 | y::r,h,hne => by
  obtain ⟨h1,h2⟩:=List.pairwise_cons.1 h
  unfold ins
  split
  · rename_i hb
    refine List.pairwise_cons.2 ⟨fun q hq => ?_,h⟩
    rcases List.mem_cons.1 hq with rfl | hq
    · exact hb
    · exact before_trans hb (h1 q hq)
  · rename_i hb
    refine List.pairwise_cons.2 ⟨fun q hq => ?_,rising_ins h2 fun p hp => hne p (by simp [hp])⟩
    rcases mem_ins.1 hq with rfl | hq
    · rcases before_total (hne y (by simp)) with h' | h'
      · exact h'
      · exact absurd h' hb
    · exact h1 q hq
theorem rising_put {m:Files} (h:Rising m) (k:Str) (f:Fl):Rising (put m k f):=rising_ins (rising_del h k) fun _ hp => (mem_del.1 hp).2
theorem rising_apart {m:Files} (h:Rising m):m.Pairwise fun p q => p.1≠q.1:=h.imp before_ne
theorem names_rising {m:Files} (h:Rising m):(names m).Pairwise fun a b => bytesBefore a b=true:=List.pairwise_map.2 h
theorem get_mem {m:Files} {k:Str} {f:Fl} (h:get m k=some f):(k,f)∈m:=by
 unfold get at h
 rw [Option.map_eq_some_iff] at h
 obtain ⟨p,hp,rfl⟩:=h
 have h1:=List.find?_some hp
 have h2:=List.mem_of_find?_eq_some hp
 rw [beq_iff_eq] at h1
 rw [← h1];exact h2
theorem get_none {m:Files} {k:Str} (h:get m k=none):∀ p∈m,p.1≠k:=by
 unfold get at h
 rw [Option.map_eq_none_iff,List.find?_eq_none] at h
 intro p hp e
 exact h p hp (by rw [beq_iff_eq];exact e)
theorem get_of_mem {m:Files} (hm:m.Pairwise fun p q => p.1≠q.1) {k:Str} {f:Fl} (h:(k,f)∈m):get m k=some f:=by
 induction m with
 | nil => cases h
 | cons p r ih =>
  obtain ⟨h1,h2⟩:=List.pairwise_cons.1 hm
  unfold get
  rw [List.find?_cons]
  rcases List.mem_cons.1 h with rfl | h
  · simp
  · have:(p.1 == k)=false:=by rw [beq_eq_false_iff_ne];exact h1 _ h
    rw [this]
    exact ih h2 h
theorem del_none {m:Files} {k:Str} (h:get m k=none):del m k=m:=by
 unfold del
 rw [List.filter_eq_self]
 intro p hp
 have:=get_none h p hp
 simpa using this
theorem del_perm {m:Files} (hm:m.Pairwise fun p q => p.1≠q.1) {k:Str} {f:Fl} (h:get m k=some f):m.Perm ((k,f)::del m k):=by
 induction m with
 | nil => simp [get] at h
 | cons p r ih =>
  obtain ⟨h1,h2⟩:=List.pairwise_cons.1 hm
  by_cases hp:p.1=k
  · have e:p=(k,f):=by
     have:=get_mem h
     rcases List.mem_cons.1 this with h3 | h3
     · exact h3.symm
     · exact absurd hp (h1 _ h3)
    subst e
    have:del ((k,f)::r) k=r:=by
     unfold del
     rw [List.filter_cons_of_neg (by simp)]
     rw [List.filter_eq_self]
     intro q hq
     have:=h1 q hq
     simpa using this.symm
    rw [this]
  · have hg:get r k=some f:=by
     unfold get at h ⊢
     rw [List.find?_cons_of_neg (by simpa using hp)] at h
     exact h
    have hd:del (p::r) k=p::del r k:=by
     unfold del
     rw [List.filter_cons_of_pos (by simpa using hp)]
    rw [hd]
    exact ((ih h2 hg).cons p).trans (List.Perm.swap _ _ _)
theorem total_perm {m m':Files} (h:m.Perm m'):total m=total m':=(h.map _).sum_nat
theorem total_cons (p:Str×Fl) (m:Files):total (p::m)=p.2.data.length+total m:=rfl
theorem total_ins (x:Str×Fl) (m:Files):total (ins x m)=x.2.data.length+total m:=total_perm (ins_perm x m)
theorem del_total {m:Files} (hm:m.Pairwise fun p q => p.1≠q.1) {k:Str} {f:Fl} (h:get m k=some f):total m=f.data.length+total (del m k):=total_perm (del_perm hm h)
theorem del_length {m:Files} (hm:m.Pairwise fun p q => p.1≠q.1) {k:Str} {f:Fl} (h:get m k=some f):m.length=(del m k).length+1:=(del_perm hm h).length_eq
theorem del_le (m:Files) (k:Str):(del m k).length≤m.length:=(del_sub m k).length_le
theorem total_sub {m m':Files} (h:m.Sublist m'):total m≤total m':=by
 induction h with
 | slnil => exact Nat.le_refl _
 | cons a _ ih => rw [total_cons];omega
 | cons_cons a _ ih => rw [total_cons,total_cons];omega
theorem put_length (m:Files) (k:Str) (f:Fl):(put m k f).length=(del m k).length+1:=ins_length _ _
theorem put_total (m:Files) (k:Str) (f:Fl):total (put m k f)=f.data.length+total (del m k):=total_ins _ _
theorem mem_put {m:Files} {k:Str} {f:Fl} {p:Str×Fl}:p∈put m k f↔p=(k,f)∨(p∈m∧p.1≠k):=by unfold put;rw [mem_ins,mem_del]
theorem sorted_names {m:Files} (h:Rising m) {ss:List Str} (hp:ss.Perm (names m)):ss.mergeSort (fun x y => decide (x≤y))=names m:=by
 have e:ss.mergeSort leB=(names m).mergeSort leB:=mergeSort_of_perm hp
 show ss.mergeSort leB=names m
 rw [e]
 refine List.mergeSort_of_pairwise ?_
 refine (names_rising h).imp fun {a b} hb => ?_
 simp only [leB,decide_eq_true_eq]
 exact List.le_of_lt (before_lt a b hb)
/-! ### a disk -/
structure Dk where
 room:Nat
 starts:Int
 off:Bool
 files:Files
 fail:Option Int
 keep:List Int
def Named (n:Str):Prop:=1≤n.length∧n.length≤16
instance (n:Str):Decidable (Named n):=by unfold Named;exact inferInstance
def stays (f:Fl) (k:Option Int):Nat:=f.safe+(min (max (k.getD 0) 0) ((f.data.length:Int)-f.safe)).toNat
def cutF (f:Fl) (k:Option Int):Fl:=⟨f.data.take (stays f k),stays f k⟩
def cutL (keep:List Int) (i:Nat):Files→Files
 | [] => []
 | p::r => (p.1,cutF p.2 keep[i]?)::cutL keep (i+1) r
structure Ok (d:Dk):Prop where
 room1:1≤d.room
 room2:d.room≤1048576
 rising:Rising d.files
 named:∀ p∈d.files,Named p.1
 safe:∀ p∈d.files,p.2.safe≤p.2.data.length
 count:d.files.length≤1024
 fits:total d.files≤d.room
 starts:-9223372036854775808≤d.starts∧d.starts≤9223372036854775807
 keep:d.keep.length≤1099511627776
def FOk (d:Dk):Prop:=∀ n,d.fail=some n→0≤n∧n≤9223372036854775807
def Dk.crashed (d:Dk) (keep:List Int):Dk:={ d with off:=true,fail:=none,files:=cutL keep 0 d.files }
def Dk.change (d:Dk) (files:Files):Int×Dk :=
 match d.fail with
 | some n => if n≤0 then (51,d.crashed d.keep) else (0,{ d with fail:=some (n-1),files:=files })
 | none => (0,{ d with files:=files })
def Dk.append (d:Dk) (name s:Str):Int×Dk :=
 if d.off then (51,d)
 else if ¬ Named name then (2,d)
 else if (get d.files name=none∧1024≤d.files.length)∨d.room<total d.files+s.length then (50,d)
 else
  let f:=(get d.files name).getD ⟨[],0⟩
  let m:=put d.files name ⟨f.data++s,f.safe⟩
  ({ d with files:=m }:Dk).change m
def Dk.sync (d:Dk) (name:Str):Int×Dk :=
 if d.off then (51,d)
 else match get d.files name with
  | none => (4,d)
  | some f => d.change (put d.files name ⟨f.data,f.data.length⟩)
def Dk.rename (d:Dk) (fr to:Str):Int×Dk :=
 if d.off then (51,d)
 else match get d.files fr with
  | none => (4,d)
  | some f => if ¬ Named to then (2,d) else d.change (put (del d.files fr) to f)
def Dk.remove (d:Dk) (name:Str):Int×Dk :=
 if d.off then (51,d)
 else match get d.files name with
  | none => (4,d)
  | some _ => d.change (del d.files name)
def Dk.read (d:Dk) (name:Str):Str×Int :=
 if d.off then ([],51)
 else match get d.files name with
  | none => ([],4)
  | some f => (f.data,0)
def Dk.synced (d:Dk) (name:Str):Nat:=match get d.files name with | none => 0 | some f => f.safe
def Dk.failAt (d:Dk) (n:Int) (keep:List Int):Int×Dk :=
 if d.off then (51,d) else if n<0 then (2,d) else (0,{ d with fail:=some n,keep:=keep })
def Dk.new (capacity:Nat):Dk:=⟨capacity,0,false,[],none,[]⟩
theorem stays_le {f:Fl} (h:f.safe≤f.data.length) (k:Option Int):stays f k≤f.data.length:=by unfold stays;omega
theorem cutF_len {f:Fl} (h:f.safe≤f.data.length) (k:Option Int):(cutF f k).data.length=stays f k:=by
 have:=stays_le h k
 simp [cutF];omega
theorem cutL_names (keep:List Int):∀ (i:Nat) (m:Files),names (cutL keep i m)=names m
 | _,[] => rfl
 | i,p::r => by simp only [cutL,names,List.map_cons];congr 1;exact cutL_names keep (i+1) r
theorem cutL_length (keep:List Int) (i:Nat) (m:Files):(cutL keep i m).length=m.length:=by
 have:=congrArg List.length (cutL_names keep i m)
 simpa [names] using this
theorem rising_of_names {m m':Files} (h:names m'=names m) (hm:Rising m):Rising m':=by
 have:=names_rising hm
 rw [← h] at this
 exact List.pairwise_map.1 this
theorem cutL_mem {keep:List Int} {p:Str×Fl}:∀ {i:Nat} {m:Files},p∈cutL keep i m→∃ q∈m,∃ k,p=(q.1,cutF q.2 k)
 | _,[],h => by cases h
 | i,q::r,h => by
  simp only [cutL,List.mem_cons] at h
  rcases h with rfl | h
  · exact ⟨q,by simp,_,rfl⟩
  · obtain ⟨q',hq,k,e⟩:=cutL_mem h
    exact ⟨q',by simp [hq],k,e⟩
theorem cutL_total (keep:List Int):∀ (i:Nat) (m:Files),(∀ p∈m,p.2.safe≤p.2.data.length)→total (cutL keep i m)≤total m
 | _,[],_ => Nat.le_refl _
 | i,p::r,h => by
  have h1:=cutL_total keep (i+1) r fun q hq => h q (by simp [hq])
  have h2:=cutF_len (h p (by simp)) keep[i]?
  have h3:=stays_le (h p (by simp)) keep[i]?
  simp only [cutL,total_cons]
  rw [h2];omega
theorem Ok.crashed {d:Dk} (h:Ok d) (keep:List Int):Ok (d.crashed keep) where
 room1:=h.room1
 room2:=h.room2
 rising:=rising_of_names (cutL_names keep 0 d.files) h.rising
 named:=fun p hp => by
  obtain ⟨q,hq,k,rfl⟩:=cutL_mem hp
  exact h.named q hq
 safe:=fun p hp => by
  obtain ⟨q,hq,k,rfl⟩:=cutL_mem hp
  show stays q.2 k≤_
  rw [cutF_len (h.safe q hq)]
  exact Nat.le_refl _
 count:=by show (cutL keep 0 d.files).length≤_;rw [cutL_length];exact h.count
 fits:=Nat.le_trans (cutL_total keep 0 d.files h.safe) h.fits
 starts:=h.starts
 keep:=h.keep
theorem Ok.files {d:Dk} (h:Ok d) {m:Files} (h1:Rising m) (h2:∀ p∈m,Named p.1∧p.2.safe≤p.2.data.length) (h3:m.length≤1024) (h4:total m≤d.room):Ok { d with files:=m } :=
 ⟨h.room1,h.room2,h1,fun p hp => (h2 p hp).1,fun p hp => (h2 p hp).2,h3,h4,h.starts,h.keep⟩
theorem Ok.change {d:Dk} (h:Ok d) {m:Files} (h1:Rising m) (h2:∀ p∈m,Named p.1∧p.2.safe≤p.2.data.length) (h3:m.length≤1024) (h4:total m≤d.room):Ok (d.change m).2:=by
 unfold Dk.change
 split
 · split
   · exact h.crashed _
   · have:=h.files h1 h2 h3 h4
     exact ⟨this.room1,this.room2,this.rising,this.named,this.safe,this.count,this.fits,this.starts,this.keep⟩
 · exact h.files h1 h2 h3 h4
theorem append_facts {d:Dk} (h:Ok d) {name s:Str} (hn:Named name) (h3:¬ ((get d.files name=none∧1024≤d.files.length)∨d.room<total d.files+s.length)) {m:Files}
  (hm:m=put d.files name ⟨((get d.files name).getD ⟨[],0⟩).data++s,((get d.files name).getD ⟨[],0⟩).safe⟩):Rising m∧(∀ p∈m,Named p.1∧p.2.safe≤p.2.data.length)∧m.length≤1024∧total m≤d.room:=by
 subst hm
 have hap:=rising_apart h.rising
 refine ⟨rising_put h.rising _ _,fun p hp => ?_,?_,?_⟩
 · rcases mem_put.1 hp with rfl | ⟨hp,_⟩
   · refine ⟨hn,?_⟩
     cases hg:get d.files name with
     | none => exact Nat.zero_le _
     | some f =>
      have:=h.safe _ (get_mem hg)
      simp at this ⊢;omega
   · exact ⟨h.named p hp,h.safe p hp⟩
 · rw [put_length]
   cases hg:get d.files name with
   | none =>
    rw [del_none hg]
    have:¬ 1024≤d.files.length:=fun e => h3 (.inl ⟨hg,e⟩)
    omega
   | some f =>
    have:=del_length hap hg
    have:=h.count
    omega
 · rw [put_total]
   have h4:¬ d.room<total d.files+s.length:=fun e => h3 (.inr e)
   cases hg:get d.files name with
   | none => rw [del_none hg];simp;omega
   | some f => have:=del_total hap hg;simp;omega
theorem Ok.append {d:Dk} (h:Ok d) (name s:Str):Ok (d.append name s).2:=by
 unfold Dk.append
 split
 · exact h
 split
 · exact h
 split
 · exact h
 rename_i h1 h2 h3
 obtain ⟨a,b,c,e⟩:=append_facts h (Classical.not_not.1 h2) h3 rfl
 exact (h.files a b c e).change a b c e
theorem Ok.sync {d:Dk} (h:Ok d) (name:Str):Ok (d.sync name).2:=by
 unfold Dk.sync
 split
 · exact h
 split
 · exact h
 · rename_i f hg
   have hap:=rising_apart h.rising
   refine h.change (rising_put h.rising _ _) (fun p hp => ?_) ?_ ?_
   · rcases mem_put.1 hp with rfl | ⟨hp,_⟩
     · exact ⟨h.named (name,f) (get_mem hg),Nat.le_refl _⟩
     · exact ⟨h.named p hp,h.safe p hp⟩
   · rw [put_length];have:=del_length hap hg;have:=h.count;omega
   · rw [put_total];have:=del_total hap hg;have:=h.fits;simp;omega
theorem Ok.remove {d:Dk} (h:Ok d) (name:Str):Ok (d.remove name).2:=by
 unfold Dk.remove
 split
 · exact h
 split
 · exact h
 · refine h.change (rising_del h.rising _) (fun p hp => ?_) ?_ ?_
   · have hp:=(mem_del.1 hp).1
     exact ⟨h.named p hp,h.safe p hp⟩
   · have:=del_le d.files name;have:=h.count;omega
   · have:=total_sub (del_sub d.files name);have:=h.fits;omega
theorem Ok.rename {d:Dk} (h:Ok d) (fr to:Str):Ok (d.rename fr to).2:=by
 unfold Dk.rename
 split
 · exact h
 split
 · exact h
 · rename_i f hg
   split
   · exact h
   · rename_i hn
     have hn:Named to:=Classical.not_not.1 hn
     have hap:=rising_apart h.rising
     have h1:=rising_del h.rising fr
     have h5:=del_total hap hg
     have h6:=del_length hap hg
     have h7:=del_le (del d.files fr) to
     have h8:=total_sub (del_sub (del d.files fr) to)
     refine h.change (rising_put h1 _ _) (fun p hp => ?_) ?_ ?_
     · rcases mem_put.1 hp with rfl | ⟨hp,_⟩
       · exact ⟨hn,h.safe (fr,f) (get_mem hg)⟩
       · have hp:=(mem_del.1 hp).1
         exact ⟨h.named p hp,h.safe p hp⟩
     · rw [put_length];have:=h.count;omega
     · rw [put_total];have:=h.fits;omega
theorem Ok.failAt {d:Dk} (h:Ok d) (n:Int) (keep:List Int) (hk:keep.length≤1099511627776):Ok (d.failAt n keep).2:=by
 unfold Dk.failAt
 split
 · exact h
 split
 · exact h
 · exact ⟨h.room1,h.room2,h.rising,h.named,h.safe,h.count,h.fits,h.starts,hk⟩
theorem Ok.new {c:Nat} (h1:1≤c) (h2:c≤1048576):Ok (Dk.new c) :=
 ⟨h1,h2,List.Pairwise.nil,fun _ hp => (by cases hp),fun _ hp => (by cases hp),Nat.zero_le _,Nat.zero_le _,⟨(by show (-9223372036854775808:Int)≤0;omega),(by show (0:Int)≤9223372036854775807;omega)⟩,Nat.zero_le _⟩
theorem FOk.same {d d':Dk} (h:FOk d) (e:d'.fail=d.fail):FOk d':=fun n hn => h n (e ▸ hn)
theorem ins_mid {k:Str} {g:Fl}:∀ {a b:Files},(∀ p∈a,bytesBefore p.1 k=true)→(∀ p∈b,bytesBefore k p.1=true)→ins (k,g) (a++b)=a++(k,g)::b
 | [],[],_,_ => rfl
 | [],y::r,_,hb => by
  show ins (k,g) (y::r)=_
  rw [ins,if_pos (hb y (by simp))];rfl
 | p::a,b,ha,hb => by
  show ins (k,g) (p::(a++b))=_
  have h1:=ha p (by simp)
  rw [ins,if_neg,ins_mid (fun q hq => ha q (by simp [hq])) hb]
  · rfl
  · intro h2
    have:=before_trans h1 h2
    rw [before_irrefl] at this
    cases this
theorem put_mid {k:Str} {f g:Fl} {a b:Files} (h:Rising (a++(k,f)::b)):put (a++(k,f)::b) k g=a++(k,g)::b:=by
 obtain ⟨h1,h2,h3⟩:=List.pairwise_append.1 h
 obtain ⟨h4,h5⟩:=List.pairwise_cons.1 h2
 have ha:∀ p∈a,bytesBefore p.1 k=true:=fun p hp => h3 p hp (k,f) (by simp)
 have hd:del (a++(k,f)::b) k=a++b:=by
  unfold del
  rw [List.filter_append,List.filter_cons_of_neg (by simp)]
  congr 1
  · rw [List.filter_eq_self]
    intro p hp
    simpa using before_ne (ha p hp)
  · rw [List.filter_eq_self]
    intro p hp
    simpa using (before_ne (h4 p hp)).symm
 unfold put
 rw [hd]
 exact ins_mid ha h4
def cutTo (keep:List Int) (k:Nat) (m:Files):Files:=cutL keep 0 (m.take k)++m.drop k
theorem cutL_append (keep:List Int):∀ (i:Nat) (a b:Files),cutL keep i (a++b)=cutL keep i a++cutL keep (i+a.length) b
 | _,[],_ => by simp [cutL]
 | i,p::a,b => by
  simp only [List.cons_append,cutL,List.length_cons]
  rw [cutL_append keep (i+1) a b,show i+1+a.length=i+(a.length+1) by omega]
theorem cutTo_zero (keep:List Int) (m:Files):cutTo keep 0 m=m:=by simp [cutTo,cutL]
theorem cutTo_end (keep:List Int) (m:Files):cutTo keep m.length m=cutL keep 0 m:=by simp [cutTo]
theorem cutTo_names (keep:List Int) (k:Nat) (m:Files):names (cutTo keep k m)=names m:=by
 unfold cutTo
 have:names (cutL keep 0 (m.take k)++m.drop k)=names (cutL keep 0 (m.take k))++names (m.drop k):=by simp [names]
 rw [this,cutL_names]
 have:names (m.take k)++names (m.drop k)=names (m.take k++m.drop k):=by simp [names]
 rw [this,List.take_append_drop]
theorem cutTo_length (keep:List Int) (k:Nat) (m:Files):(cutTo keep k m).length=m.length:=by
 have:=congrArg List.length (cutTo_names keep k m)
 simpa [names] using this
theorem cutTo_step (keep:List Int) (k:Nat) (m:Files) (hm:Rising m) (hk:k<m.length) :
  get (cutTo keep k m) m[k].1=some m[k].2∧put (cutTo keep k m) m[k].1 (cutF m[k].2 keep[k]?)=cutTo keep (k+1) m:=by
 have hr:Rising (cutTo keep k m):=rising_of_names (cutTo_names keep k m) hm
 have e:m.drop k=(m[k].1,m[k].2)::m.drop (k+1):=by rw [List.drop_eq_getElem_cons hk]
 have e0:cutTo keep k m=cutL keep 0 (m.take k)++(m[k].1,m[k].2)::m.drop (k+1):=by unfold cutTo;rw [e]
 refine ⟨?_,?_⟩
 · refine get_of_mem (rising_apart hr) ?_
   rw [e0];simp
 · rw [e0] at hr ⊢
   rw [put_mid hr]
   unfold cutTo
   rw [List.take_succ_eq_append_getElem hk,cutL_append]
   simp [cutL,List.length_take,Nat.min_eq_left (Nat.le_of_lt hk)]
theorem get_nth {m:Files} (hm:Rising m) (k:Nat) (hk:k<m.length):get m m[k].1=some m[k].2:=get_of_mem (rising_apart hm) (List.getElem_mem hk)
theorem total_take_succ (m:Files) (k:Nat) (hk:k<m.length):total (m.take (k+1))=total (m.take k)+m[k].2.data.length:=by
 unfold total
 rw [List.take_succ_eq_append_getElem hk,List.map_append,List.sum_append];simp
theorem total_take_le (m:Files) (k:Nat):total (m.take k)≤total m:=total_sub (List.take_sublist k m)
theorem data_le {m:Files} {p:Str×Fl} (h:p∈m):p.2.data.length≤total m:=by
 induction m with
 | nil => cases h
 | cons q r ih =>
  rw [total_cons]
  rcases List.mem_cons.1 h with rfl | h
  · omega
  · have:=ih h;omega
end Go.Proofs.YtdacanghbepjpaaGreatDoor.Dsk
namespace Go.Proofs.YtdacanghbepjpaaGreatDoor
set_option linter.unusedSimpArgs false
set_option linter.unusedVariables false
open Dsk
structure Sg where
 first:Nat
 spans:List Sp.Span
def Sg.next (a:Sg):Nat:=a.first+a.spans.length
def frm (x:Sp.Span):Str:=Frm.frame (Sp.enc x)
def sgT (l:List Sp.Span):Str:=l.flatMap frm
def ln (n:Nat):Str:=108::Lib.decDigits n
def lnB (n:Nat):ByteArray:=⟨(ln n).toArray⟩
def lnew:Str:=[108,110,101,119]
theorem lnB_data (n:Nat):(lnB n).data.toList=ln n:=by simp [lnB]
theorem ln_inj {a b:Nat} (h:ln a=ln b):a=b:=by
 unfold ln at h
 injection h with _ h
 have:=congrArg Lib.atoi h
 rw [atoi_digits,atoi_digits] at this
 injection this with this
 omega
theorem ln_new (n:Nat):ln n≠lnew:=by
 unfold ln lnew
 intro h
 injection h with _ h
 have h1:=(digits_from n n (Nat.le_refl _)).1
 rw [h] at h1
 exact absurd h1 (by simp [Lib.decFrom,Lib.digitVal])
theorem digits_nine {n:Nat} (h:n≤999999999):(Lib.decDigits n).length≤9:=digits_len 8 n (Nat.lt_of_le_of_lt h (by decide))
theorem ln_named {n:Nat} (h:n≤999999999):Named (ln n):=by
 have:=digits_nine h
 unfold Named ln
 simp only [List.length_cons]
 omega
theorem sgT_append (a b:List Sp.Span):sgT (a++b)=sgT a++sgT b:=by unfold sgT;rw [List.flatMap_append]
theorem sgT_one (x:Sp.Span):sgT [x]=frm x:=by simp [sgT]
theorem sgT_cons (x:Sp.Span) (l:List Sp.Span):sgT (x::l)=frm x++sgT l:=rfl
theorem sgT_snoc (l:List Sp.Span) (x:Sp.Span):sgT (l++[x])=sgT l++frm x:=by rw [sgT_append,sgT_one]
theorem frm_len {x:Sp.Span} (h:Sp.May x):16≤(frm x).length∧(frm x).length≤120:=by
 have:=Sp.enc_len h
 unfold frm
 rw [Frm.frame_length]
 omega
theorem sgT_len:∀ (l:List Sp.Span),(∀ x∈l,Sp.May x)→16*l.length≤(sgT l).length∧(sgT l).length≤120*l.length
 | [],_ => by simp [sgT]
 | x::l,h => by
  have h1:=frm_len (h x List.mem_cons_self)
  have h2:=sgT_len l fun y hy => h y (List.mem_cons_of_mem _ hy)
  rw [sgT_cons,List.length_append,List.length_cons]
  omega
theorem ftorn_none (p:Str) (hp:p.length≤16384) (t:Nat) (ht:t<(Frm.frame p).length):Frm.nextAt ((Frm.frame p).take t)=none:=by
 rw [Frm.nextAt_none]
 intro q hq h
 have h2:Frm.frame q <+: Frm.frame p:=h.trans (List.take_prefix _ _)
 have e:=Frm.frame_prefix q p (Frm.frame p) hq hp h2 (List.prefix_refl _)
 subst e
 have:=h.length_le
 rw [List.length_take] at this
 omega
theorem fnil_none:Frm.nextAt []=none:=Frm.nextAt_short _ (by simp)
theorem sg_cut:∀ (l:List Sp.Span) (n:Nat),(∀ x∈l,Sp.May x)→n≤(sgT l).length→∃ k t,k≤l.length∧(sgT l).take n=sgT (l.take k)++t∧Frm.nextAt t=none∧(∀ j,j≤l.length→(sgT (l.take j)).length≤n→j≤k)
 | [],n,_,_ => ⟨0,[],Nat.le_refl _,by simp [sgT],fnil_none,fun j hj _ => hj⟩
 | x::l,n,h,hn => by
  have h1:=frm_len (h x List.mem_cons_self)
  have he:=Sp.enc_len (h x List.mem_cons_self)
  rw [sgT_cons,List.length_append] at hn
  by_cases hx:n<(frm x).length
  · refine ⟨0,(frm x).take n,Nat.zero_le _,?_,ftorn_none _ (by omega) n hx,fun j hj hl => ?_⟩
    · rw [sgT_cons,List.take_append_of_le_length (Nat.le_of_lt hx)];rfl
    · cases j with
      | zero => exact Nat.le_refl _
      | succ j =>
       rw [List.take_succ_cons,sgT_cons,List.length_append] at hl
       omega
  · obtain ⟨k,t,k1,k2,k3,k4⟩:=sg_cut l (n-(frm x).length) (fun y hy => h y (List.mem_cons_of_mem _ hy)) (by omega)
    refine ⟨k+1,t,by rw [List.length_cons];omega,?_,k3,fun j hj hl => ?_⟩
    · rw [sgT_cons,List.take_append,List.take_of_length_le (by omega),k2,List.take_succ_cons,sgT_cons,List.append_assoc]
    · cases j with
      | zero => omega
      | succ j =>
       rw [List.take_succ_cons,sgT_cons,List.length_append] at hl
       have:=k4 j (by rw [List.length_cons] at hj;omega) (by omega)
       omega
theorem sg_take_len (l:List Sp.Span) (k:Nat) (hk:k<l.length):(sgT (l.take (k+1))).length=(sgT (l.take k)).length+(Sp.enc l[k]).length+8:=by
 rw [List.take_succ_eq_append_getElem hk,sgT_snoc,List.length_append]
 unfold frm
 rw [Frm.frame_length]
 omega
def sgEnds (l:List Sp.Span):List Int:=(List.range l.length).map fun i => ((sgT (l.take (i+1))).length:Int)
theorem sgEnds_length (l:List Sp.Span):(sgEnds l).length=l.length:=by simp [sgEnds]
theorem sgEnds_get (l:List Sp.Span) (i:Nat) (hi:i<(sgEnds l).length):(sgEnds l)[i]=((sgT (l.take (i+1))).length:Int):=by simp [sgEnds]
theorem sgEnds_snoc (l:List Sp.Span) (x:Sp.Span):sgEnds (l++[x])=sgEnds l++[((sgT l).length+(frm x).length:Int)]:=by
 unfold sgEnds
 rw [List.length_append,List.length_singleton,List.range_succ,List.map_append]
 congr 1
 · apply List.map_congr_left
   intro i hi
   have:=List.mem_range.1 hi
   rw [List.take_append_of_le_length (by omega)]
 · simp only [List.map_cons,List.map_nil]
   rw [List.take_of_length_le (by simp),sgT_snoc,List.length_append]
   congr 1
/-! ### files -/
theorem put_perm_old {fs A B:Files} {k:Str} {f g:Fl} (hr:Rising fs) (h:fs.Perm (A++(k,f)::B)):(put fs k g).Perm (A++(k,g)::B)∧get fs k=some f∧(del fs k).Perm (A++B):=by
 have hm:(k,f)∈fs:=h.mem_iff.2 (by simp)
 have hg:=get_of_mem (rising_apart hr) hm
 have h1:=del_perm (rising_apart hr) hg
 have h2:(del fs k).Perm (A++B):=((h1.symm.trans h).trans List.perm_middle).cons_inv
 refine ⟨?_,hg,h2⟩
 exact ((ins_perm _ _).trans (h2.cons _)).trans List.perm_middle.symm
theorem put_perm_new {fs:Files} {k:Str} {g:Fl} (h:get fs k=none):(put fs k g).Perm ((k,g)::fs):=by
 unfold put
 rw [del_none h]
 exact ins_perm _ _
theorem get_none_of {fs A:Files} {k:Str} (h:fs.Perm A) (hk:∀ p∈A,p.1≠k):get fs k=none:=by
 cases hg:get fs k with
 | none => rfl
 | some f => exact absurd rfl (hk _ (h.mem_iff.1 (get_mem hg)))
theorem cutL_map (keep:List Int):∀ (i:Nat) (m:Files),(m.Pairwise fun p q => p.1≠q.1)→∃ g:Str→Option Int,cutL keep i m=m.map fun p => (p.1,cutF p.2 (g p.1))
 | _,[],_ => ⟨fun _ => none,rfl⟩
 | i,p::m,h => by
  obtain ⟨h1,h2⟩:=List.pairwise_cons.1 h
  obtain ⟨g,hg⟩:=cutL_map keep (i+1) m h2
  refine ⟨fun n => if n=p.1 then keep[i]? else g n,?_⟩
  show (p.1,cutF p.2 keep[i]?)::cutL keep (i+1) m=_
  rw [hg,List.map_cons]
  show _=(p.1,cutF p.2 (if p.1=p.1 then keep[i]? else g p.1))::_
  rw [if_pos rfl]
  congr 1
  apply List.map_congr_left
  intro q hq
  show _=(q.1,cutF q.2 (if q.1=p.1 then keep[i]? else g q.1))
  rw [if_neg fun e => h1 q hq e.symm]
theorem cutF_safe (T:Str) (k:Option Int):cutF ⟨T,T.length⟩ k=⟨T,T.length⟩:=by
 have hs:stays ⟨T,T.length⟩ k=T.length:=by unfold stays;simp only;omega
 unfold cutF
 rw [hs]
 simp
def full (a:Sg):Str×Fl:=(ln a.first,⟨sgT a.spans,(sgT a.spans).length⟩)
def lastF (a:Sg) (t:Str) (s:Nat):Str×Fl:=(ln a.first,⟨sgT a.spans++t,s⟩)
def LogD (fs:Files) (l:List Sg) (t:Str) (s:Nat) (dr:Files):Prop :=
 (l=[]∧t=[]∧fs.Perm dr)∨∃ init a,l=init++[a]∧fs.Perm (init.map full++lastF a t s::dr)
def IsDr (dr:Files):Prop:=∀ p∈dr,p.1=lnew∨p.1.head?≠some 108
theorem IsDr.ne {dr:Files} (h:IsDr dr):∀ p∈dr,∀ n,p.1≠ln n:=fun p hp n e => by
 rcases h p hp with h | h
 · exact ln_new n (e.symm.trans h)
 · rw [e] at h;exact h rfl
def Cuts (a b:Files):Prop:=∃ g:Str→Option Int,b=a.map fun p => (p.1,cutF p.2 (g p.1))
theorem IsDr.nil:IsDr []:=fun p hp => by cases hp
theorem Cuts.isDr {a b:Files} (h:Cuts a b) (k:IsDr a):IsDr b:=by
 obtain ⟨g,rfl⟩:=h
 intro p hp
 obtain ⟨q,hq,rfl⟩:=List.mem_map.1 hp
 exact k q hq
theorem Cuts.del {a b:Files} (h:Cuts a b) (k:Str):Cuts (Dsk.del a k) (Dsk.del b k):=by
 obtain ⟨g,rfl⟩:=h
 refine ⟨g,?_⟩
 unfold Dsk.del
 rw [List.filter_map]
 rfl
theorem IsDr.del {a:Files} (h:IsDr a) (k:Str):IsDr (Dsk.del a k):=fun p hp => h p (mem_del.1 hp).1
theorem del_perm_filter {a b:Files} (h:a.Perm b) (k:Str):(Dsk.del a k).Perm (Dsk.del b k):=h.filter _
theorem del_append (a b:Files) (k:Str):Dsk.del (a++b) k=Dsk.del a k++Dsk.del b k:=by unfold Dsk.del;rw [List.filter_append]
theorem del_same {a:Files} {k:Str} (h:∀ p∈a,p.1≠k):Dsk.del a k=a:=by
 unfold Dsk.del
 rw [List.filter_eq_self]
 intro p hp
 have:=h p hp
 simpa using this
def Chained:List Sg→Prop
 | [] => True
 | [_] => True
 | a::b::r => a.spans≠[]∧b.first=a.next∧Chained (b::r)
structure SgsOk (l:List Sg):Prop where
 chain:Chained l
 may:∀ a∈l,∀ x∈a.spans,Sp.May x
theorem chained_snoc:∀ (l:List Sg) (a b:Sg),Chained (l++[a])→a.spans≠[]→b.first=a.next→Chained (l++[a,b])
 | [],a,b,_,h1,h2 => ⟨h1,h2,trivial⟩
 | [c],a,b,h,h1,h2 => ⟨h.1,h.2.1,h1,h2,trivial⟩
 | c::d::r,a,b,h,h1,h2 => ⟨h.1,h.2.1,chained_snoc (d::r) a b h.2.2 h1 h2⟩
theorem chained_last:∀ (l:List Sg) (a b:Sg),Chained (l++[a])→b.first=a.first→Chained (l++[b])
 | [],a,b,_,_ => trivial
 | [c],a,b,h,h1 => ⟨h.1,h1.trans h.2.1,trivial⟩
 | c::d::r,a,b,h,h1 => ⟨h.1,h.2.1,chained_last (d::r) a b h.2.2 h1⟩
theorem chained_tail {a:Sg} {l:List Sg} (h:Chained (a::l)):Chained l:=by
 cases l with
 | nil => trivial
 | cons b r => exact h.2.2
theorem chained_front:∀ (l:List Sg) (r:List Sg),Chained (l++r)→Chained l
 | [],_,_ => trivial
 | [a],_,_ => trivial
 | a::b::l,r,h => ⟨h.1,h.2.1,chained_front (b::l) r h.2.2⟩
theorem chained_rise:∀ (l:List Sg),Chained l→l.Pairwise fun a b => a.first<b.first∧a.next≤b.first
 | [],_ => List.Pairwise.nil
 | [a],_ => List.pairwise_singleton _ _
 | a::b::r,h => by
  have ih:=chained_rise (b::r) h.2.2
  have hl:0<a.spans.length:=List.length_pos_iff.2 h.1
  refine List.pairwise_cons.2 ⟨fun c hc => ?_,ih⟩
  have hb:=h.2.1
  have hn:a.next=a.first+a.spans.length:=rfl
  rcases List.mem_cons.1 hc with rfl | hc
  · omega
  · have:=(List.pairwise_cons.1 ih).1 c hc
    omega
end Go.Proofs.YtdacanghbepjpaaGreatDoor
namespace Go.Proofs.YtdacanghbepjpaaGreatDoor
set_option linter.unusedSimpArgs false
set_option linter.unusedVariables false
open Dsk
structure Hl where
 st:Int
 lost:Bool
 l:List Sg
def Hl.told (h:Hl) (r:Int):Hl:={ h with lost:=h.lost || (r != 0 && r != 50) }
def Hl.runs (h:Hl) (d:Dk):Prop:=h.lost=false∧d.off=false∧d.starts=h.st
instance (h:Hl) (d:Dk):Decidable (h.runs d):=by unfold Hl.runs;infer_instance
def pushL:List Sg→Sp.Span→List Sg
 | [],_ => []
 | [a],x => [⟨a.first,a.spans++[x]⟩]
 | a::b::r,x => a::pushL (b::r) x
theorem pushL_snoc:∀ (l:List Sg) (a:Sg) (x:Sp.Span),pushL (l++[a]) x=l++[⟨a.first,a.spans++[x]⟩]
 | [],_,_ => rfl
 | [c],a,x => rfl
 | c::d::r,a,x => by
  show c::pushL (d::r++[a]) x=_
  rw [pushL_snoc (d::r) a x]
  rfl
def nextOf (l:List Sg):Nat:=match l.getLast? with | none => 0 | some a => a.next
def beginP (d:Dk) (h:Hl) (b:Str):Int×Hl×Dk :=
 let y:Int×Dk:=match h.l.getLast? with | none => (0,d) | some a => d.sync (ln a.first)
 if y.1≠0 then (y.1,h.told y.1,y.2)
 else
  let z:=y.2.append (ln (nextOf h.l)) b
  if z.1≠0 then (z.1,h.told z.1,z.2) else (0,{ h with l:=h.l++[⟨nextOf h.l,[]⟩] },z.2)
def appP (d:Dk) (h:Hl) (x:Sp.Span):Int×Hl×Dk :=
 if ¬ Sp.May x then (2,h,d)
 else
  match h.l.getLast? with
  | none => let y:=beginP d h (frm x);if y.1≠0 then y else (0,{ y.2.1 with l:=pushL y.2.1.l x },y.2.2)
  | some a =>
   if a.spans.length<16 then
    let z:=d.append (ln a.first) (frm x)
    if z.1≠0 then (z.1,h.told z.1,z.2) else (0,{ h with l:=pushL h.l x },z.2)
   else let y:=beginP d h (frm x);if y.1≠0 then y else (0,{ y.2.1 with l:=pushL y.2.1.l x },y.2.2)
def syncP (d:Dk) (h:Hl):Int×Hl×Dk:=match h.l.getLast? with
 | none => (0,h,d)
 | some a => let z:=d.sync (ln a.first);(z.1,h.told z.1,z.2)
def rotP (d:Dk) (h:Hl):Int×Hl×Dk:=match h.l.getLast? with
 | none => (0,h,d)
 | some a => if a.spans=[] then (0,h,d) else beginP d h []
def retL (n:Nat):Dk→List Sg→Int×List Sg×Dk
 | d,[] => (0,[],d)
 | d,a::r => if n<(a::r).length then (let z:=d.remove (ln a.first);if z.1≠0 then (z.1,a::r,z.2) else retL n z.2 r) else (0,a::r,d)
def retP (n:Int) (d:Dk) (h:Hl):Int×Hl×Dk :=
 if n<1 then (2,h,d) else let z:=retL n.toNat d h.l;(z.1,{ h.told z.1 with l:=z.2.1 },z.2.2)
def sureN (l:List Sp.Span) (s:Nat):Nat:=(sgEnds l).countP fun e => decide (e≤(s:Int))
def sureL (d:Dk):List Sg→Nat→Nat
 | [],n => n
 | a::r,_ => if sureN a.spans (d.synced (ln a.first))<a.spans.length then a.first+sureN a.spans (d.synced (ln a.first)) else sureL d r (a.first+sureN a.spans (d.synced (ln a.first)))
def firstOf (l:List Sg):Nat:=match l with | [] => 0 | a::_ => a.first
def recs (l:List Sg):List Sp.Span:=l.flatMap Sg.spans
/-! ### laws -/
theorem change_cases (d:Dk) (m:Files):(∃ f,d.change m=(0,{ d with fail:=f,files:=m })∧(d.fail=none→f=none))∨(d.change m=(51,d.crashed d.keep)∧d.fail≠none):=by
 unfold Dk.change
 cases h:d.fail with
 | none =>
  refine .inl ⟨none,?_,fun _ => rfl⟩
  obtain ⟨room,starts,off,files,fail,keep⟩:=d
  simp only at h
  subst h
  rfl
 | some k =>
  by_cases hk:k≤0
  · refine .inr ⟨?_,by simp⟩
    simp only [if_pos hk]
  · refine .inl ⟨some (k-1),?_,(fun e => by cases e)⟩
    simp only [if_neg hk]
theorem crashed_perm {fs dr:Files} {k:Str} {f:Fl} {init:List Sg} (keep:List Int) (hr:Rising fs) (h:fs.Perm (init.map full++(k,f)::dr)) :
  ∃ kk dr',Cuts dr dr'∧(cutL keep 0 fs).Perm (init.map full++(k,cutF f kk)::dr'):=by
 obtain ⟨g,hg⟩:=cutL_map keep 0 fs (rising_apart hr)
 refine ⟨g k,dr.map fun p => (p.1,cutF p.2 (g p.1)),⟨g,rfl⟩,?_⟩
 rw [hg]
 have h2:=h.map fun p:Str×Fl => (p.1,cutF p.2 (g p.1))
 rw [List.map_append,List.map_map,List.map_cons] at h2
 have e:(init.map ((fun p:Str×Fl => (p.1,cutF p.2 (g p.1))) ∘ full))=init.map full:=by
  apply List.map_congr_left
  intro a _
  show (ln a.first,cutF ⟨sgT a.spans,(sgT a.spans).length⟩ _)=full a
  rw [cutF_safe]
  rfl
 rw [e] at h2
 exact h2
theorem crashed_none {fs dr:Files} (keep:List Int) (hr:Rising fs) (h:fs.Perm dr):∃ dr',Cuts dr dr'∧(cutL keep 0 fs).Perm dr':=by
 obtain ⟨g,hg⟩:=cutL_map keep 0 fs (rising_apart hr)
 exact ⟨dr.map fun p => (p.1,cutF p.2 (g p.1)),⟨g,rfl⟩,by rw [hg];exact h.map _⟩
theorem cutF_take {T:Str} {s:Nat} (hs:s≤T.length) (k:Option Int):∃ n,s≤n∧n≤T.length∧cutF ⟨T,s⟩ k=⟨T.take n,n⟩:=by
 refine ⟨stays ⟨T,s⟩ k,?_,?_,rfl⟩
 · unfold stays;simp only;omega
 · exact stays_le hs k
theorem sureN_le (l:List Sp.Span) (s:Nat):sureN l s≤l.length:=by
 unfold sureN
 have:=List.countP_le_length (p:=fun e:Int => decide (e≤(s:Int))) (l:=sgEnds l)
 rw [sgEnds_length] at this
 exact this
theorem sgT_take_mono (l:List Sp.Span) {i j:Nat} (h:i≤j):(sgT (l.take i)).length≤(sgT (l.take j)).length:=by
 have e:l.take j=l.take i++(l.take j).drop i:=by
  have:=List.take_append_drop i (l.take j)
  rw [List.take_take,Nat.min_eq_left h] at this
  exact this.symm
 rw [e,sgT_append,List.length_append]
 omega
theorem countP_first {α:Type} (p:α→Bool):∀ (l:List α) (k:Nat),k≤l.length→(∀ i (hi:i<l.length),p l[i]=decide (i<k))→l.countP p=k
 | [],k,hk,_ => by simp at hk;simp [hk]
 | a::l,0,_,h => by
  rw [List.countP_eq_zero]
  intro x hx
  obtain ⟨i,hi,rfl⟩:=List.mem_iff_getElem.1 hx
  rw [h i hi]
  simp
 | a::l,k+1,hk,h => by
  have h0:=h 0 (by simp)
  have ih:=countP_first p l k (by simpa using hk) (fun i hi => by have:=h (i+1) (by simpa using hi);simpa using this)
  rw [List.countP_cons,ih]
  simp only [List.getElem_cons_zero] at h0
  rw [h0]
  simp
theorem sureN_eq {l:List Sp.Span} {s k:Nat} (hk:k≤l.length) (h1:(sgT (l.take k)).length≤s) (h2:k<l.length→s<(sgT (l.take (k+1))).length):sureN l s=k:=by
 unfold sureN
 apply countP_first
 · rw [sgEnds_length];exact hk
 · intro i hi
   rw [sgEnds_get]
   rw [sgEnds_length] at hi
   by_cases hik:i<k
   · have:=sgT_take_mono l (show i+1≤k by omega)
     rw [decide_eq_true hik]
     exact decide_eq_true (by omega)
   · have h3:=h2 (by omega)
     have:=sgT_take_mono l (show k+1≤i+1 by omega)
     rw [decide_eq_false hik]
     exact decide_eq_false (by omega)
theorem sureN_all (l:List Sp.Span) (s:Nat) (h:(sgT l).length≤s):sureN l s=l.length:=sureN_eq (Nat.le_refl _) (by rw [List.take_length];exact h) (fun e => absurd e (by omega))
theorem sureN_spec {l:List Sp.Span} (hm:∀ x∈l,Sp.May x) (s:Nat):(sgT (l.take (sureN l s))).length≤s∧(sureN l s<l.length→s<(sgT (l.take (sureN l s+1))).length):=by
 by_cases hs:s≤(sgT l).length
 · obtain ⟨k,t,k1,k2,k3,k4⟩:=sg_cut l s hm hs
   have hl:=congrArg List.length k2
   rw [List.length_take,Nat.min_eq_left hs,List.length_append] at hl
   have e:sureN l s=k:=by
    refine sureN_eq k1 (by omega) fun hk => ?_
    apply Nat.lt_of_not_le
    intro h
    have:=k4 (k+1) (by omega) h
    omega
   rw [e]
   refine ⟨by omega,fun hk => ?_⟩
   apply Nat.lt_of_not_le
   intro h
   have:=k4 (k+1) (by omega) h
   omega
 · rw [sureN_all l s (by omega),List.take_length]
   exact ⟨by omega,fun h => absurd h (by omega)⟩
end Go.Proofs.YtdacanghbepjpaaGreatDoor
namespace Go.Proofs.YtdacanghbepjpaaGreatDoor
open Dsk
def curN:Str:=[99,117,114,115,111,114]
def draN:Str:=[99,117,114,115,111,114,43]
def loadD (d:Dk):(Int×Int)×Int:=if (d.read curN).2=4 then ((0,0),0) else if (d.read curN).2=0 then (match Cur.dec (d.read curN).1 with | some c => (c,0) | none => ((0,0),60)) else ((0,0),(d.read curN).2)
def saveD (d:Dk) (a b:Int):Int×Dk :=
 if d.off=true then (51,d)
 else if ¬ Cur.May a b then (2,d)
 else if (d.remove draN).1≠0∧(d.remove draN).1≠4 then d.remove draN
 else if ((d.remove draN).2.append draN (Cur.enc a b).1).1≠0 then (d.remove draN).2.append draN (Cur.enc a b).1
 else if (((d.remove draN).2.append draN (Cur.enc a b).1).2.sync draN).1≠0 then ((d.remove draN).2.append draN (Cur.enc a b).1).2.sync draN
 else (((d.remove draN).2.append draN (Cur.enc a b).1).2.sync draN).2.rename draN curN
end Go.Proofs.YtdacanghbepjpaaGreatDoor

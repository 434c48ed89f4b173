/- A host's daemon, plainly: what it sends, which answers count, what becomes of its cursor. No program in sight. Numbers behind a letter, written and read; acks as bytes: walked. Numbers behind a letter, read: walked. Acks as bytes: walked. A batch's bytes: walked. A batch's bytes read back: walked. -/
import Derived.Test.YtdacanghbepjpaaGreatDoorM6
import Derived.Test.YtdacanghbepjpaaGreatDoorM1
import Derived.Test.YtdacanghbepjpaaGreatDoorG2
import Derived.Test.YtdacanghbepjpaaGreatDoorHlShelf
import Derived.Test.YtdacanghbepjpaaGreatDoorM3
import Derived.Test.YtdacanghbepjpaaGreatDoorSink2
import Derived.Test.YtdacanghbepjpaaGreatDoorG4
import Derived.Test.YtdacanghbepjpaaGreatDoorG5
namespace Go.Proofs.YtdacanghbepjpaaGreatDoor
set_option linter.unusedSimpArgs false
set_option linter.unusedVariables false
open Dsk
structure Dm where
 host:Int
 next:Int
 gap:Int
 out:ByteArray
 many:Int
 sent:Int
def noB:ByteArray:=⟨#[]⟩
def batchB (h f:Int) (l:List Sp.Span):ByteArray:=⟨(Po.batchS h f l).toArray⟩
theorem batchB_ne (h f:Int) (l:List Sp.Span):batchB h f l≠noB:=by
 unfold batchB noB Po.batchS
 intro e
 injection e with e
 have:=congrArg Array.size e
 simp at this
def firstA (d:Dk) (h:Hl):Nat:=if h.runs d then firstOf h.l else 0
def sureA (d:Dk) (h:Hl):Nat:=if h.runs d then sureL d h.l 0 else 0
def keepC (d:Dk) (x:Dm) (a b:Int):Int×Dm×Dk:=let y:=saveD d a b;if y.1≠0 then (y.1,x,y.2) else (0,{ x with next:=a,gap:=b },y.2)
def skipC (d:Dk) (h:Hl) (x:Dm):Int×Dm×Dk:=if (firstA d h:Int)≤x.next then (0,x,d) else keepC d x (firstA d h) (x.gap+firstA d h-x.next)
def batC (d:Dk) (h:Hl) (x:Dm):Int×Dm×Dk :=
 if (sureA d h:Int)≤x.next then (0,x,d)
 else if (readP d h x.next 8).2.2≠0∨(readP d h x.next 8).1=[] then ((readP d h x.next 8).2.2,x,d)
 else (0,{ x with out:=batchB x.host x.next (readP d h x.next 8).1,many:=(readP d h x.next 8).2.1-x.next },d)
def gatherC (d:Dk) (h:Hl) (x:Dm):Int×Dm×Dk:=let y:=skipC d h x;if y.1≠0 then y else batC y.2.2 h y.2.1
open Classical in
noncomputable def stepC (now:Int) (d:Dk) (h:Hl) (x:Dm):(ByteArray×Int)×Dm×Dk :=
 if d.off=true then ((noB,51),x,d)
 else if x.out≠noB then (if now-x.sent<3 then ((noB,0),x,d) else ((x.out,0),{ x with sent:=now },d))
 else let y:=gatherC d h x;if y.1≠0 then ((noB,y.1),y.2.1,y.2.2) else ((y.2.1.out,0),{ y.2.1 with sent:=now },y.2.2)
open Classical in
noncomputable def takeC (s:Str) (d:Dk) (x:Dm):(Bool×Int)×Dm×Dk :=
 if d.off=true then ((false,51),x,d)
 else match Po.decAck s with
  | none => ((false,30),x,d)
  | some (ho,f,n) =>
   if x.out=noB∨ho≠x.host∨f≠x.next∨n≠x.next+x.many then ((false,0),x,d)
   else let y:=keepC d x n x.gap;if y.1≠0 then ((false,y.1),y.2.1,y.2.2) else ((true,0),{ y.2.1 with out:=noB,many:=0 },y.2.2)
def pageL (l:List Sg) (s n:Nat):List Sp.Span:=(((recs l).take (sureOf l s-firstOf l)).drop (n-firstOf l)).take 8
def OutOk (x:Dm) (su:Nat):Prop:=(x.out=noB∧x.many=0)∨∃ ss:List Sp.Span,x.out=batchB x.host x.next ss∧x.many=ss.length∧1≤ss.length∧ss.length≤8∧(∀ y∈ss,Sp.May y)∧x.next+ss.length≤su
structure NodeP (d:Dk) (h:Hl) (s:Nat) (x:Dm):Prop where
 run:RunC d h s x.next x.gap
 gap:0≤x.gap∧x.gap≤x.next
 sure:x.next≤(sureOf h.l s:Nat)
 host:Po.HostOk x.host
 out:OutOk x (sureOf h.l s)
def NodeF (d:Dk) (h:Hl) (s:Nat) (x:Dm) (d':Dk):Prop:=∃ l' t',FlatC d' l' t' x.next x.gap∧Stp h.l s l' (lastT l'++t').length
section
variable {d d':Dk} {h h':Hl} {s s':Nat} {x x':Dm} {l l':List Sg} {t':Str} {n:Nat}
theorem pageL_len (hc:Chained l) (h1:firstOf l≤n) (h2:n≤sureOf l s):(pageL l s n).length=min 8 (sureOf l s-n):=by
 unfold pageL
 have h3:=nextOf_recs hc
 have h4:=sureOf_le l s
 rw [List.length_take,List.length_drop,List.length_take]
 omega
theorem pageL_may (hm:∀ a∈l,∀ y∈a.spans,Sp.May y) (s n:Nat):∀ y∈pageL l s n,Sp.May y:=fun y hy => by
 have h1:y∈recs l:=List.mem_of_mem_take (List.mem_of_mem_drop (List.mem_of_mem_take hy))
 obtain ⟨a,ha,hya⟩:=List.mem_flatMap.1 h1
 exact hm a ha y hya
theorem OutOk.more {su su':Nat} (o:OutOk x su) (h:su≤su'):OutOk x su':=by
 rcases o with o | ⟨ss,e1,e2,e3,e4,e5,e6⟩
 · exact .inl o
 · exact .inr ⟨ss,e1,e2,e3,e4,e5,by omega⟩
theorem NodeP.off (p:NodeP d h s x):d.off=false:=p.run.off
theorem NodeP.moved (p:NodeP d h s x) (r:RunC d' h' s' x.next x.gap) (st:Stp h.l s h'.l s'):NodeP d' h' s' x :=
 ⟨r,p.gap,by have:=p.sure;have:=st.kr.sure;omega,p.host,p.out.more st.kr.sure⟩
theorem NodeP.keep (p:NodeP d h s x) {a b:Int} (hr1:d.files.length<1024) (hr2:total d.files+19≤d.room) (hb:0≤b∧b≤a) (ha:a≤(sureOf h.l s:Nat)) (hs:sureOf h.l s≤2147483647) :
  ((keepC d x a b).1=0∧(keepC d x a b).2.1={ x with next:=a,gap:=b }∧RunC (keepC d x a b).2.2 h s a b)∨((keepC d x a b).1=51∧(keepC d x a b).2.1=x∧NodeF d h s x (keepC d x a b).2.2):=by
 have hm:Cur.May a b:=⟨by omega,by omega,by omega,by omega⟩
 unfold keepC
 rcases p.run.save hm hr1 hr2 with ⟨e,r⟩ | ⟨e,l',t',f,st⟩
 · simp only [e,ne_eq,not_true_eq_false,if_false]
   exact .inl ⟨trivial,trivial,r⟩
 · simp only [e]
   rw [if_pos (by decide)]
   exact .inr ⟨rfl,rfl,l',t',f,st⟩
theorem NodeP.first (p:NodeP d h s x):firstA d h=firstOf h.l∧sureA d h=sureOf h.l s:=by
 unfold firstA sureA
 rw [if_pos p.run.runs,if_pos p.run.runs,p.run.sureL]
 exact ⟨rfl,rfl⟩
structure Stepped (d:Dk) (h:Hl) (s:Nat) (x x':Dm) (d':Dk):Prop where
 node:NodeP d' h s x'
 first:x'.out=noB∨x.out≠noB∨firstOf h.l≤x'.next.toNat
 next:x'.next=x.next∨(x.next<x'.next∧x'.next=(firstOf h.l:Nat))
 gap:x'.gap-x.gap=x'.next-x.next
theorem NodeP.skip (p:NodeP d h s x) (ho:x.out=noB) (hr1:d.files.length<1024) (hr2:total d.files+19≤d.room) (hs:sureOf h.l s≤2147483647) :
  ((skipC d h x).1=0∧NodeP (skipC d h x).2.2 h s (skipC d h x).2.1∧(firstOf h.l:Int)≤(skipC d h x).2.1.next∧(skipC d h x).2.1.out=noB∧((skipC d h x).2.1.next=x.next∨(x.next<(skipC d h x).2.1.next∧(skipC d h x).2.1.next=(firstOf h.l:Nat)))∧(skipC d h x).2.1.gap-x.gap=(skipC d h x).2.1.next-x.next) ∨
  ((skipC d h x).1=51∧(skipC d h x).2.1=x∧NodeF d h s x (skipC d h x).2.2):=by
 obtain ⟨e1,_⟩:=p.first
 have hf:=first_le_sure p.run.chain s
 obtain ⟨g1,g2⟩:=p.gap
 unfold skipC
 rw [e1]
 by_cases hle:(firstOf h.l:Int)≤x.next
 · rw [if_pos hle]
   exact .inl ⟨rfl,p,hle,ho,.inl rfl,by simp⟩
 · rw [if_neg hle]
   rcases p.keep (a:=(firstOf h.l:Nat)) (b:=x.gap+(firstOf h.l:Nat)-x.next) hr1 hr2 (by omega) (by omega) hs with ⟨k1,k2,k3⟩ | ⟨k1,k2,k3⟩
   · have hm:x.many=0:=by
      rcases p.out with ⟨_,e⟩ | ⟨ss,e,_⟩
      · exact e
      · rw [ho] at e;exact absurd e.symm (batchB_ne _ _ _)
     refine .inl ⟨k1,?_,?_,?_,?_,?_⟩
     · rw [k2]
       exact ⟨k3,⟨by show 0≤x.gap+(firstOf h.l:Nat)-x.next;omega,by show x.gap+(firstOf h.l:Nat)-x.next≤(firstOf h.l:Nat);omega⟩,by show ((firstOf h.l:Nat):Int)≤_;omega,p.host,.inl ⟨ho,hm⟩⟩
     · rw [k2];exact Int.le_refl _
     · rw [k2];exact ho
     · rw [k2];exact .inr ⟨by show x.next<((firstOf h.l:Nat):Int);omega,rfl⟩
     · rw [k2];show x.gap+(firstOf h.l:Nat)-x.next-x.gap=(firstOf h.l:Nat)-x.next;omega
   · exact .inr ⟨k1,k2,k3⟩
theorem NodeP.bat (p:NodeP d h s x) (ho:x.out=noB) (hf:(firstOf h.l:Int)≤x.next) :
  batC d h x=(if (sureOf h.l s:Int)≤x.next then (0,x,d) else (0,{ x with out:=batchB x.host x.next (pageL h.l s x.next.toNat),many:=(pageL h.l s x.next.toNat).length },d))∧NodeP d h s (batC d h x).2.1:=by
 obtain ⟨_,e2⟩:=p.first
 obtain ⟨g1,g2⟩:=p.gap
 obtain ⟨n,hn⟩:∃ n:Nat,x.next=n:=⟨x.next.toNat,by omega⟩
 have hsu:=p.sure
 have e:batC d h x=(if (sureOf h.l s:Int)≤x.next then (0,x,d) else (0,{ x with out:=batchB x.host x.next (pageL h.l s x.next.toNat),many:=(pageL h.l s x.next.toNat).length },d)):=by
  unfold batC
  rw [e2]
  by_cases hle:(sureOf h.l s:Int)≤x.next
  · rw [if_pos hle,if_pos hle]
  · rw [if_neg hle,if_neg hle]
    have hp:=p.run.read (n:=n) (m:=8) (by omega) (by omega)
    have hl:=pageL_len (n:=n) p.run.chain (s:=s) (by omega) (by omega)
    rw [hn]
    have h8:((8:Nat):Int)=8:=rfl
    rw [h8] at hp
    have hpg:(((recs h.l).take (sureOf h.l s-firstOf h.l)).drop (n-firstOf h.l)).take 8=pageL h.l s n:=rfl
    rw [hpg] at hp
    rw [hp]
    simp only
    rw [if_neg]
    · simp only [Int.toNat_natCast,Prod.mk.injEq,true_and,and_true]
      congr 1
      omega
    · intro e
      rcases e with e | e
      · exact e rfl
      · rw [e] at hl
        simp at hl
        omega
 refine ⟨e,?_⟩
 rw [e]
 by_cases hle:(sureOf h.l s:Int)≤x.next
 · rw [if_pos hle]
   exact p
 · rw [if_neg hle]
   have hl:=pageL_len (n:=n) p.run.chain (s:=s) (by omega) (by omega)
   have hmay:=pageL_may (l:=h.l) (by obtain ⟨dr,f,_⟩:=p.run.file;exact f.sgs.may) s n
   rw [hn]
   simp only [Int.toNat_natCast]
   refine ⟨?_,?_,?_,p.host,.inr ⟨pageL h.l s n,rfl,rfl,by omega,by omega,hmay,by show (n:Int)+_≤_;omega⟩⟩
   · have:=p.run;rw [hn] at this;exact this
   · show 0≤x.gap∧x.gap≤(n:Int);omega
   · show ((n:Nat):Int)≤_;omega
theorem NodeP.sent (p:NodeP d h s x) (now:Int):NodeP d h s { x with sent:=now } :=
 ⟨p.run,p.gap,p.sure,p.host,by
  rcases p.out with o | ⟨ss,e1,e2,r⟩
  · exact .inl o
  · exact .inr ⟨ss,e1,e2,r⟩⟩
theorem NodeP.take (p:NodeP d h s x) (b:Po.Str) (hr1:d.files.length<1024) (hr2:total d.files+19≤d.room) (hs:sureOf h.l s≤2147483647) :
  ((takeC b d x).1.1=false∧(takeC b d x).2=(x,d)∧((Po.decAck b=none∧(takeC b d x).1.2=30)∨((takeC b d x).1.2=0∧Po.decAck b≠none∧(x.out=noB∨Po.decAck b≠some (x.host,x.next,x.next+x.many))))) ∨
  ((takeC b d x).1=(true,0)∧x.out≠noB∧Po.decAck b=some (x.host,x.next,x.next+x.many)∧(takeC b d x).2.1={ x with next:=x.next+x.many,out:=noB,many:=0 }∧NodeP (takeC b d x).2.2 h s { x with next:=x.next+x.many,out:=noB,many:=0 }) ∨
  ((takeC b d x).1=(false,51)∧x.out≠noB∧Po.decAck b=some (x.host,x.next,x.next+x.many)∧(takeC b d x).2.1=x∧NodeF d h s x (takeC b d x).2.2):=by
 unfold takeC
 rw [if_neg (by rw [p.off];decide)]
 cases hd:Po.decAck b with
 | none => exact .inl ⟨rfl,rfl,.inl ⟨rfl,rfl⟩⟩
 | some q =>
  obtain ⟨ho,f,n⟩:=q
  simp only
  by_cases hg:x.out=noB∨ho≠x.host∨f≠x.next∨n≠x.next+x.many
  · rw [if_pos hg]
    refine .inl ⟨rfl,rfl,.inr ⟨rfl,by simp,?_⟩⟩
    rcases hg with hg | hg
    · exact .inl hg
    · refine .inr fun e => ?_
      simp only [Option.some.injEq,Prod.mk.injEq] at e
      obtain ⟨e1,e2,e3⟩:=e
      rcases hg with hg | hg | hg
      · exact hg e1
      · exact hg e2
      · exact hg e3
  · rw [if_neg hg]
    have h1:x.out≠noB:=fun e => hg (.inl e)
    have h2:ho=x.host:=Classical.byContradiction fun e => hg (.inr (.inl e))
    have h3:f=x.next:=Classical.byContradiction fun e => hg (.inr (.inr (.inl e)))
    have h4:n=x.next+x.many:=Classical.byContradiction fun e => hg (.inr (.inr (.inr e)))
    subst h2 h3 h4
    obtain ⟨g1,g2⟩:=p.gap
    have hsu:x.next+x.many≤(sureOf h.l s:Nat)∧1≤x.many:=by
     rcases p.out with ⟨o,_⟩ | ⟨ss,_,e2,e3,_,_,e6⟩
     · exact absurd o h1
     · omega
    rcases p.keep (a:=x.next+x.many) (b:=x.gap) hr1 hr2 (by omega) hsu.1 hs with ⟨k1,k2,k3⟩ | ⟨k1,k2,k3⟩
    · simp only [k1,ne_eq,not_true_eq_false,if_false]
      refine .inr (.inl ⟨trivial,h1,trivial,by rw [k2],⟨k3,⟨g1,by show x.gap≤x.next+x.many;omega⟩,by show x.next+x.many≤_;exact hsu.1,p.host,.inl ⟨rfl,rfl⟩⟩⟩)
    · simp only [k1]
      rw [if_pos (by decide)]
      exact .inr (.inr ⟨by first | rfl | trivial,h1,by first | rfl | trivial,k2,k3⟩)
end
end Go.Proofs.YtdacanghbepjpaaGreatDoor
namespace Go.Proofs.YtdacanghbepjpaaGreatDoor
set_option linter.unusedSimpArgs false
set_option linter.unusedVariables false
set_option maxRecDepth 100000
open Go.RowKit
theorem record_any (n:Int) (w:World):Calls Tryz.prog 87 #[.int .i64 n] w fun e w' => e=.returned (.bool (decide (Po.RecOk n)))∧w=w':=by
 by_cases h:Po.RecOk n
 · have h1:n≥0:=h.1
   have h2:=h.2
   rw [decide_eq_true h]
   clear h
   go_enter Tryz.func87,Tryz.ntmps87
   go_wp2_with fail
   go_ret
   exact ⟨rfl,rfl⟩
 · rw [decide_eq_false h]
   by_cases h1:n≥0
   · have h2:¬ n≤2147483647:=fun e => h ⟨h1,e⟩
     clear h
     go_enter Tryz.func87,Tryz.ntmps87
     go_wp2_with fail
     go_ret
     exact ⟨rfl,rfl⟩
   · clear h
     go_enter Tryz.func87,Tryz.ntmps87
     go_wp2_with fail
     go_ret
     exact ⟨rfl,rfl⟩
theorem host_any (n:Int) (w:World):Calls Tryz.prog 86 #[.int .i64 n] w fun e w' => e=.returned (.bool (decide (Po.HostOk n)))∧w=w':=by
 by_cases h:Po.HostOk n
 · have h1:n≥0:=h.1
   have h2:=h.2
   rw [decide_eq_true h]
   clear h
   go_enter Tryz.func86,Tryz.ntmps86
   go_wp2_with fail
   go_ret
   exact ⟨rfl,rfl⟩
 · rw [decide_eq_false h]
   by_cases h1:n≥0
   · have h2:¬ n<4:=fun e => h ⟨h1,e⟩
     clear h
     go_enter Tryz.func86,Tryz.ntmps86
     go_wp2_with fail
     go_ret
     exact ⟨rfl,rfl⟩
   · clear h
     go_enter Tryz.func86,Tryz.ntmps86
     go_wp2_with fail
     go_ret
     exact ⟨rfl,rfl⟩
def putsB (L:ByteArray) (a b c:Int):Nat→ByteArray
 | 0 => L
 | 1 => L++pnB a
 | 2 => L++pnB a++pnB b
 | _ => L++pnB a++pnB b++pnB c
theorem putsB_size (L:ByteArray) (hL:L.size≤10) {a b c:Int} (ha:a<9223372036854775808) (hb:b<9223372036854775808) (hc:c<9223372036854775808) (i:Nat):(putsB L a b c i).size≤37:=by
 have h1:=pnB_size ha
 have h2:=pnB_size hb
 have h3:=pnB_size hc
 match i with
 | 0 => show L.size≤37;omega
 | 1 => show (L++pnB a).size≤37;rw [ByteArray.size_append];omega
 | 2 => show (L++pnB a++pnB b).size≤37;rw [ByteArray.size_append,ByteArray.size_append];omega
 | _+3 => show (L++pnB a++pnB b++pnB c).size≤37;rw [ByteArray.size_append,ByteArray.size_append,ByteArray.size_append];omega
theorem putsB_list (c:UInt8) (a b d:Int):putsB ⟨#[c]⟩ a b d 3=⟨(c::(Ed.pn a++(Ed.pn b++Ed.pn d))).toArray⟩:=by
 unfold putsB pnB
 apply bytes_ext
 simp
set_option maxHeartbeats 2000000 in
theorem puts_any (L:ByteArray) (hL:L.size≤10) (a b c:Int) (ha:0≤a∧a<9223372036854775808) (hb:0≤b∧b<9223372036854775808) (hc:0≤c∧c<9223372036854775808) (w:World) (g:Nat) (hg:g<w.heap.size)
  (k0:w.cell? ⟨g,0,none⟩=some (.int .i64 a)) (k1:w.cell? ⟨g,1,none⟩=some (.int .i64 b)) (k2:w.cell? ⟨g,2,none⟩=some (.int .i64 c)) :
  Calls Tryz.prog 96 #[.string L,.slice (some ⟨g,0,none⟩) 3 3] w fun e w' => e=.returned (.string (putsB L a b c 3))∧Below w.heap.size w w':=by
 have HP:=Lib.hid (fun (n:Int) (W:World) (h:0≤n∧n<9223372036854775808) => putP_any n W h.1 h.2)
 have HA:=Lib.hid ha
 have HB:=Lib.hid hb
 have HC:=Lib.hid hc
 have HSZ:=Lib.hid (putsB_size L hL ha.2 hb.2 hc.2)
 have HPA:=Lib.hid (pnB_size ha.2)
 have HPB:=Lib.hid (pnB_size hb.2)
 have HPC:=Lib.hid (pnB_size hc.2)
 have HK:=Lib.hid (fun (W:World) (hW:Below w.heap.size w W) => show W.cell? ⟨g,0,none⟩=some (.int .i64 a)∧W.cell? ⟨g,1,none⟩=some (.int .i64 b)∧W.cell? ⟨g,2,none⟩=some (.int .i64 c) from
  ⟨(hW.cell (p:=⟨g,0,none⟩) hg).trans k0,(hW.cell (p:=⟨g,1,none⟩) hg).trans k1,(hW.cell (p:=⟨g,2,none⟩) hg).trans k2⟩)
 clear ha hb hc k0 k1 k2 hL
 go_enter Tryz.func96,Tryz.ntmps96
 go_wp2_with fail
 go_loopw [0,9] (fun v0 v9 wr => ∃ i:Nat,v9=.int .i64 i∧i≤3∧v0=.string (putsB L a b c i)∧Below w.heap.size w wr) (fun _ v9 _ => 3-(intOf v9).toNat)
 case atStart => exact ⟨0,rfl,by omega,rfl,Below.refl _ _⟩
 case round =>
  obtain ⟨i,rfl,hi,rfl,hbw⟩:=hrel
  have HBW:=Lib.hid hbw
  obtain ⟨k0,k1,k2⟩:=HK.out wr hbw
  clear hbw
  have hi4:i=0∨i=1∨i=2∨i=3:=by omega
  have hz:=HSZ.out i
  rcases hi4 with rfl | rfl | rfl | rfl
  · clear k1 k2
    obtain ⟨S,hS⟩:∃ S,S=putsB L a b c 0:=⟨_,rfl⟩
    rw [← hS] at hz ⊢
    have HE:=Lib.hid (show putsB L a b c 1=S++pnB a by rw [hS];rfl)
    have hzz:S.size+(pnB a).size≤100:=by have:=HPA.out;omega
    clear hS
    go_wp2_with fail
    refine (HP.out a wr HA.out).mono ?_
    rintro e w1 ⟨rfl,hb1⟩
    have HB1:=Lib.hid (HBW.out.trans (hb1.mono HBW.out.size))
    clear hb1 k0
    go_wp2_with fail
    go_roundw
    case rel => exact ⟨1,rfl,by omega,by rw [HE.out],HB1.out⟩
    case measure => simp [intOf]
  · clear k0 k2
    obtain ⟨S,hS⟩:∃ S,S=putsB L a b c 1:=⟨_,rfl⟩
    rw [← hS] at hz ⊢
    have HE:=Lib.hid (show putsB L a b c 2=S++pnB b by rw [hS];rfl)
    have hzz:S.size+(pnB b).size≤100:=by have:=HPB.out;omega
    clear hS
    go_wp2_with fail
    refine (HP.out b wr HB.out).mono ?_
    rintro e w1 ⟨rfl,hb1⟩
    have HB1:=Lib.hid (HBW.out.trans (hb1.mono HBW.out.size))
    clear hb1 k1
    go_wp2_with fail
    go_roundw
    case rel => exact ⟨2,rfl,by omega,by rw [HE.out],HB1.out⟩
    case measure => simp [intOf]
  · clear k0 k1
    obtain ⟨S,hS⟩:∃ S,S=putsB L a b c 2:=⟨_,rfl⟩
    rw [← hS] at hz ⊢
    have HE:=Lib.hid (show putsB L a b c 3=S++pnB c by rw [hS];rfl)
    have hzz:S.size+(pnB c).size≤100:=by have:=HPC.out;omega
    clear hS
    go_wp2_with fail
    refine (HP.out c wr HC.out).mono ?_
    rintro e w1 ⟨rfl,hb1⟩
    have HB1:=Lib.hid (HBW.out.trans (hb1.mono HBW.out.size))
    clear hb1 k2
    go_wp2_with fail
    go_roundw
    case rel => exact ⟨3,rfl,by omega,by rw [HE.out],HB1.out⟩
    case measure => simp [intOf]
  · clear k0 k1 k2
    go_wp2_with fail
    go_ret
    exact ⟨rfl,HBW.out⟩
end Go.Proofs.YtdacanghbepjpaaGreatDoor
namespace Go.Proofs.YtdacanghbepjpaaGreatDoor
set_option linter.unusedSimpArgs false
set_option linter.unusedVariables false
set_option maxRecDepth 100000
open Go.RowKit
theorem nums_snoc:∀ (i:Nat) (s:Po.Str),Po.nums (i+1) s=match Po.nums i s with
  | none => none
  | some (l,r) => match Var.get r 0 with
   | none => none
   | some (n,p) => some (l++[n],r.drop p)
 | 0,s => by
  simp only [Po.nums]
  cases Var.get s 0 with
  | none => rfl
  | some x => rfl
 | i+1,s => by
  rw [Po.nums]
  rw [show Po.nums (i+1) s=(match Var.get s 0 with
   | none => none
   | some (n,p) => match Po.nums i (s.drop p) with
    | none => none
    | some (l,r) => some (n::l,r)) from rfl]
  cases Var.get s 0 with
  | none => rfl
  | some x =>
   obtain ⟨n,p⟩:=x
   simp only
   rw [nums_snoc i (s.drop p)]
   cases Po.nums i (s.drop p) with
   | none => rfl
   | some y =>
    obtain ⟨l,r⟩:=y
    simp only
    cases Var.get r 0 with
    | none => rfl
    | some z => rfl
theorem nums_none:∀ (i k:Nat) (s:Po.Str),Po.nums i s=none→Po.nums (i+k) s=none
 | i,0,s,h => h
 | i,k+1,s,h => by
  rw [← Nat.add_assoc,nums_snoc,nums_none i k s h]
def numsC (c:UInt8) (s:Po.Str):Option (List Nat×Po.Str):=if s[0]?=some c then Po.nums 3 (s.drop 1) else none
theorem prefix_one (s:List UInt8) (c:UInt8):Lib.hasPrefix s [c]=decide (s[0]?=some c):=by
 cases s with
 | nil => simp [Lib.hasPrefix]
 | cons x r =>
  by_cases h:x=c
  · subst h;simp [Lib.hasPrefix,List.isPrefixOf]
  · have h2:(c == x)=false:=by rw [beq_eq_false_iff_ne];exact fun e => h e.symm
    simp [Lib.hasPrefix,List.isPrefixOf,h,h2]
set_option maxHeartbeats 4000000 in
theorem gets_any (s:ByteArray) (hs:s.size≤maxLen) (c:UInt8) (g:Nat) (pa:Nat→Addr) (w:World) (I:Nat→List Nat→World→Prop) (h0:I 0 [] w)
  (hset:∀ i ns (n:Nat) W,i<3→n<9223372036854775808→I i ns W→I (i+1) (ns++[n]) (W.setCell (pa i) (.int .i64 n)))
  (hdr:∀ i ns W,I i ns W→I i ns W.drew)
  (hcell:∀ i ns W,I i ns W→∀ k,k<3→W.cell? ⟨g,k,none⟩=some (.pointer (some (pa k)))∧(∃ u,W.cell? (pa k)=some u)∧W.frozen? (pa k)=false) :
  Calls Tryz.prog 85 #[.string s,.string ⟨#[c]⟩,.slice (some ⟨g,0,none⟩) 3 3] w fun e w' =>
   (∃ ns r,numsC c s.data.toList=some (ns,r)∧e=.returned (.tuple #[.string ⟨r.toArray⟩,.bool true])∧I 3 ns w')∨(numsC c s.data.toList=none∧e=.returned (.tuple #[.string ⟨#[]⟩,.bool false])∧∃ i ns,I i ns w'):=by
 have HCP:=Lib.hid (Tryz.strings_CutPrefix s ⟨#[c]⟩ w)
 have hpre:=prefix_one s.data.toList c
 have e1:(⟨#[c]⟩:ByteArray).data.toList=[c]:=rfl
 rw [e1] at HCP
 have HG:=Lib.hid (fun (R:ByteArray) (W:World) (h:R.size≤maxLen) => get_any R 0 W h (by omega))
 have HI0:=Lib.hid h0
 have HSET:=Lib.hid hset
 have HDR:=Lib.hid hdr
 have HCE:=Lib.hid hcell
 have HSZ:=Lib.hid hs
 clear h0 hset hdr hcell hs e1
 by_cases hc:s.data.toList[0]?=some c
 case neg =>
  have hp:Lib.hasPrefix s.data.toList [c]=false:=by rw [hpre];exact decide_eq_false hc
  have ht:Lib.trimPrefix s.data.toList [c]=s.data.toList:=by unfold Lib.trimPrefix;rw [hp];rfl
  have hn:numsC c s.data.toList=none:=by unfold numsC;rw [if_neg hc]
  rw [hp,ht] at HCP
  have es:(⟨s.data.toList.toArray⟩:ByteArray)=s:=by cases s;simp
  rw [es] at HCP
  have HN:=Lib.hid hn
  have hc0:=(HCE.out 0 [] w HI0.out 0 (by omega)).1
  obtain ⟨q,hq⟩:∃ q,q=Var.get s.data.toList 0:=⟨_,rfl⟩
  have hg:=HG.out s w HSZ.out
  rw [← hq] at hg
  have HGS:=Lib.hid hg
  clear hp ht hn es hpre hq hg hc HG
  go_enter Tryz.func85,Tryz.ntmps85
  go_wp2_with fail
  refine HCP.out.mono ?_
  rintro e w1 ⟨rfl,rfl⟩
  go_wp2_with fail
  go_loopw [6,7,21] (fun v6 v7 v21 wr => v6=.string s∧v7=.bool false∧v21=.int .i64 0∧wr=w1) (fun _ _ _ _ => 0)
  case atStart => exact ⟨rfl,rfl,rfl,rfl⟩
  case round =>
   obtain ⟨rfl,rfl,rfl,rfl⟩:=hrel
   go_wp2_with fail
   refine HGS.out.mono ?_
   rintro e w2 ⟨rfl,rfl⟩
   cases q with
   | none =>
    unfold gotE
    go_wp2_with fail
    refine bodyPost_ret (v:=.tuple #[.string ⟨#[]⟩,.bool false]) (by simp [results,Tryz.results85,go_sem]) rfl ?_
    exact .inr ⟨HN.out,rfl,0,[],HI0.out⟩
   | some y =>
    obtain ⟨n,p⟩:=y
    unfold gotE
    go_wp2_with fail
    refine bodyPost_ret (v:=.tuple #[.string ⟨#[]⟩,.bool false]) (by simp [results,Tryz.results85,go_sem]) rfl ?_
    exact .inr ⟨HN.out,rfl,0,[],HI0.out⟩
 case pos =>
  have hp:Lib.hasPrefix s.data.toList [c]=true:=by rw [hpre];exact decide_eq_true hc
  have ht:Lib.trimPrefix s.data.toList [c]=s.data.toList.drop 1:=by unfold Lib.trimPrefix;rw [hp];rfl
  rw [hp,ht] at HCP
  obtain ⟨R0,hR0⟩:∃ R0:ByteArray,R0=⟨(s.data.toList.drop 1).toArray⟩:=⟨_,rfl⟩
  rw [← hR0] at HCP
  have hRd:R0.data.toList=s.data.toList.drop 1:=by rw [hR0]
  have hRz:R0.size≤maxLen:=by
   have h1:R0.size=R0.data.toList.length:=by simp
   have h2:s.size=s.data.toList.length:=by simp
   have h3:=HSZ.out
   rw [h1,hRd,List.length_drop]
   omega
  have HR0:=Lib.hid (show Po.nums 0 (s.data.toList.drop 1)=some ([],R0.data.toList)∧R0.size≤maxLen from ⟨by rw [hRd];rfl,hRz⟩)
  have HNC:=Lib.hid (show numsC c s.data.toList=Po.nums 3 (s.data.toList.drop 1) from by unfold numsC;rw [if_pos hc])
  obtain ⟨S,hS⟩:∃ S,S=s.data.toList.drop 1:=⟨_,rfl⟩
  rw [← hS] at HR0 HNC
  clear hp ht hpre hc hR0 hRd hRz hS
  go_enter Tryz.func85,Tryz.ntmps85
  go_wp2_with fail
  refine HCP.out.mono ?_
  rintro e w1 ⟨rfl,rfl⟩
  clear HCP
  go_wp2_with fail
  go_loopw [6,7,21] (fun v6 v7 v21 wr => ∃ (i:Nat) (ns:List Nat) (R:ByteArray),v6=.string R∧v7=.bool true∧v21=.int .i64 i∧i≤3∧Po.nums i S=some (ns,R.data.toList)∧R.size≤maxLen∧I i ns wr) (fun _ _ v21 _ => 3-(intOf v21).toNat)
  case atStart => exact ⟨0,[],R0,rfl,rfl,rfl,by omega,HR0.out.1,HR0.out.2,HI0.out⟩
  case round =>
   obtain ⟨i,ns,R,rfl,rfl,rfl,hi,hnu,hRz,hIw⟩:=hrel
   have HNU:=Lib.hid hnu
   have HIW:=Lib.hid hIw
   have HRZ:=Lib.hid hRz
   by_cases hlt:i<3
   · have hlt2:(i:Int)<3:=by omega
     have hc0:=(HCE.out i ns wr hIw i hlt).1
     have hg:=HG.out R wr hRz
     obtain ⟨q,hq⟩:∃ q,q=Var.get R.data.toList 0:=⟨_,rfl⟩
     rw [← hq] at hg
     have HGS:=Lib.hid hg
     have HQ:=Lib.hid hq
     clear hnu hIw hRz hg hq
     go_wp2_with fail
     refine HGS.out.mono ?_
     rintro e w2 ⟨rfl,rfl⟩
     clear HGS
     cases q with
     | none =>
      have hn3:Po.nums 3 S=none:=by
       have h1:Po.nums (i+1) S=none:=by rw [nums_snoc,HNU.out];simp only;rw [← HQ.out]
       have:=nums_none (i+1) (2-i) S h1
       rwa [show i+1+(2-i)=3 by omega] at this
      have HN3:=Lib.hid hn3
      clear hn3
      unfold gotE
      go_wp2_with fail
      refine bodyPost_ret (v:=.tuple #[.string ⟨#[]⟩,.bool false]) (by simp [results,Tryz.results85,go_sem]) rfl ?_
      exact .inr ⟨by rw [HNC.out,HN3.out],rfl,i,ns,HIW.out⟩
     | some y =>
      obtain ⟨n,p⟩:=y
      obtain ⟨b1,b2,_,_,b5⟩:=Var.get_back HQ.out.symm
      have hsz:R.size=R.data.toList.length:=by simp
      rw [← hsz] at b1
      have hpz:(p:Int)≤R.size:=by omega
      have hp0:(0:Int)≤p:=by omega
      rw [Var.pow9] at b5
      have HB5:=Lib.hid b5
      have HNEXT:=Lib.hid (show Po.nums (i+1) S=some (ns++[n],(R.extract p R.size).data.toList)∧(R.extract p R.size).size≤maxLen from by
       refine ⟨?_,?_⟩
       · rw [nums_snoc,HNU.out]
         simp only
         rw [← HQ.out]
         simp only
         rw [ByteArray.data_extract,Array.toList_extract,List.extract_eq_take_drop]
         congr 2
         rw [List.take_of_length_le]
         rw [List.length_drop,hsz]
         exact Nat.le_refl _
       · rw [ByteArray.size_extract]
         have:=HRZ.out
         omega)
      clear hsz b2 b5
      unfold gotE
      go_wp2_with fail
      refine wp_region_two (T:=fun _ => True) (S:=fun _ => True) (n:=99) (by kernel_rfl) ?_
      obtain ⟨y1,hy1⟩:∃ y1,y1=wr.drew:=⟨_,rfl⟩
      rw [← hy1]
      have HI1:=Lib.hid (show I i ns y1 by rw [hy1];exact HDR.out _ _ _ HIW.out)
      have hS:True:=trivial
      have hT:True:=trivial
      obtain ⟨_,⟨u9,hu9⟩,hf9⟩:=HCE.out i ns y1 HI1.out i hlt
      clear hy1
      refine tk 0 37 hT hS ?_
      refine tk 1 38 hT hS ?_
      try simp only [xq]
      refine tk 2 39 hT hS ?_
      refine tk 3 40 hT hS ?_
      try simp only [xq]
      refine tk 4 41 hT hS ?_
      refine tk 5 42 hT hS ?_
      try simp only [xq]
      refine two_one 6 rfl (by kernel_rfl) ?_
      intro K hK
      go_simp
      obtain ⟨y2,hy2⟩:∃ y2,y2=y1.setCell (pa i) (.int .i64 n):=⟨_,rfl⟩
      rw [← hy2]
      have HI2:=Lib.hid (show I (i+1) (ns++[n]) y2 by rw [hy2];exact HSET.out i ns n y1 hlt HB5.out HI1.out)
      refine hK.out _ _ hT (fun _ _ => hS) ?_
      clear hK K hy2 hu9 hf9
      try simp only [xq]
      refine tk 7 6 hT hS ?_
      try simp only [xq]
      refine two_done (by kernel_rfl) ?_ _
      clear hT hS
      go_wp2_with fail
      go_roundw
      case rel => exact ⟨i+1,ns++[n],_,rfl,rfl,by go_num,by omega,HNEXT.out.1,HNEXT.out.2,HI2.out⟩
      case measure => simp [intOf];omega
   · obtain rfl:i=3:=by omega
     go_wp2_with fail
     refine bodyPost_ret (v:=.tuple #[.string R,.bool true]) (by simp [results,Tryz.results85,go_sem]) rfl ?_
     refine .inl ⟨ns,R.data.toList,by rw [HNC.out,HNU.out],?_,HIW.out⟩
     rw [show (⟨R.data.toList.toArray⟩:ByteArray)=R by cases R;simp]
end Go.Proofs.YtdacanghbepjpaaGreatDoor
namespace Go.Proofs.YtdacanghbepjpaaGreatDoor
set_option linter.unusedSimpArgs false
set_option linter.unusedVariables false
set_option maxRecDepth 100000
open Go.RowKit
def ackV (h f n:Int):Value:=.agg #[.int .i64 h,.int .i64 f,.int .i64 n]
def ackB (h f n:Int):ByteArray:=⟨(Po.ackS h f (n-f)).toArray⟩
open Classical in
noncomputable def encAck (h f n:Int):ByteArray×Int:=if Po.AckOk h f n then (ackB h f n,0) else (⟨#[]⟩,2)
set_option maxHeartbeats 4000000 in
theorem encAck_any (h f n:Int) (w:World):Calls Tryz.prog 31 #[ackV h f n] w fun e w' => e=.returned (.tuple #[.string (encAck h f n).1,.int .i64 (encAck h f n).2])∧Below w.heap.size w w':=by
 unfold ackV
 obtain ⟨q,hq⟩:∃ q,q=w.heap.size:=⟨_,rfl⟩
 obtain ⟨w1,hw1⟩:∃ w1,w1=w.alloc (.cells #[.int .i64 h,.int .i64 f,.int .i64 n] 51 (0,0)):=⟨_,rfl⟩
 have hb1:Below w.heap.size w w1:=by rw [hw1];exact (Below.refl _ _).alloc (Nat.le_refl _) _
 have hk1:Blk w1 q 51 #[.int .i64 h,.int .i64 f,.int .i64 n]:=by rw [hw1,hq];exact Blk.alloc_new w _ _
 have HB1:=Lib.hid hb1
 have k0:=hk1.cell 0
 have k1:=hk1.cell 1
 have k2:=hk1.cell 2
 simp only [List.getElem?_toArray,List.getElem?_cons_zero,List.getElem?_cons_succ] at k0 k1 k2
 have HW1:=Lib.hid hw1
 have hno:¬ Po.AckOk h f n→encAck h f n=(⟨#[]⟩,2):=fun e => by unfold encAck;rw [if_neg e]
 have hyes:Po.AckOk h f n→encAck h f n=(ackB h f n,0):=fun e => by unfold encAck;rw [if_pos e]
 have HH:=Lib.hid (fun W:World => host_any h W)
 have HF:=Lib.hid (fun W:World => record_any f W)
 have HN:=Lib.hid (fun W:World => record_any n W)
 clear hb1 hk1 hw1
 by_cases a1:Po.HostOk h
 case neg =>
  rw [decide_eq_false a1] at HH
  have HNO:=Lib.hid (hno fun e => a1 e.host)
  clear hno hyes a1
  go_enter Tryz.func31,Tryz.ntmps31
  go_wp2_with fail
  rw [← HW1.out,← hq]
  clear hq
  refine (HH.out w1).mono ?_
  rintro e w2 ⟨rfl,rfl⟩
  go_wp2_with fail
  refine bodyPost_ret (v:=.tuple #[.string ⟨#[]⟩,.int .i64 2]) (by simp [results,Tryz.results31,go_sem]) rfl ?_
  exact ⟨by rw [HNO.out],HB1.out⟩
 case pos =>
 rw [decide_eq_true a1] at HH
 by_cases a2:Po.RecOk f
 case neg =>
  rw [decide_eq_false a2] at HF
  have HNO:=Lib.hid (hno fun e => a2 e.first)
  clear hno hyes a1 a2
  go_enter Tryz.func31,Tryz.ntmps31
  go_wp2_with fail
  rw [← HW1.out,← hq]
  clear hq
  refine (HH.out w1).mono ?_
  rintro e w2 ⟨rfl,rfl⟩
  go_wp2_with fail
  refine (HF.out w1).mono ?_
  rintro e w2 ⟨rfl,rfl⟩
  go_wp2_with fail
  refine bodyPost_ret (v:=.tuple #[.string ⟨#[]⟩,.int .i64 2]) (by simp [results,Tryz.results31,go_sem]) rfl ?_
  exact ⟨by rw [HNO.out],HB1.out⟩
 case pos =>
 rw [decide_eq_true a2] at HF
 by_cases a3:n<f
 case pos =>
  have HNO:=Lib.hid (hno fun e => by have:=e.le;omega)
  clear hno hyes a1 a2
  go_enter Tryz.func31,Tryz.ntmps31
  go_wp2_with fail
  rw [← HW1.out,← hq]
  clear hq
  refine (HH.out w1).mono ?_
  rintro e w2 ⟨rfl,rfl⟩
  go_wp2_with fail
  refine (HF.out w1).mono ?_
  rintro e w2 ⟨rfl,rfl⟩
  go_wp2_with fail
  refine bodyPost_ret (v:=.tuple #[.string ⟨#[]⟩,.int .i64 2]) (by simp [results,Tryz.results31,go_sem]) rfl ?_
  exact ⟨by rw [HNO.out],HB1.out⟩
 case neg =>
 by_cases a4:Po.RecOk n
 case neg =>
  rw [decide_eq_false a4] at HN
  have HNO:=Lib.hid (hno fun e => a4 e.next)
  clear hno hyes a1 a2 a4
  go_enter Tryz.func31,Tryz.ntmps31
  go_wp2_with fail
  rw [← HW1.out,← hq]
  clear hq
  refine (HH.out w1).mono ?_
  rintro e w2 ⟨rfl,rfl⟩
  go_wp2_with fail
  refine (HF.out w1).mono ?_
  rintro e w2 ⟨rfl,rfl⟩
  go_wp2_with fail
  refine (HN.out w1).mono ?_
  rintro e w2 ⟨rfl,rfl⟩
  go_wp2_with fail
  refine bodyPost_ret (v:=.tuple #[.string ⟨#[]⟩,.int .i64 2]) (by simp [results,Tryz.results31,go_sem]) rfl ?_
  exact ⟨by rw [HNO.out],HB1.out⟩
 case pos =>
  rw [decide_eq_true a4] at HN
  have HYES:=Lib.hid (hyes ⟨a1,a2,by omega,a4⟩)
  have hz:=putsB_list 65 h f (n-f)
  have HP:=Lib.hid (fun (W:World) (g:Nat) => puts_any ⟨#[65]⟩ (show 1≤10 by decide) h f (n-f) ⟨a1.1,by have:=a1.2;omega⟩ ⟨a2.1,by have:=a2.2;omega⟩ ⟨by omega,by have:=a4.2;have:=a2.1;omega⟩ W g)
  rw [hz] at HP
  have hfn:-9223372036854775808≤n-f:=by omega
  have hfn2:n-f<9223372036854775808:=by have:=a4.2;have:=a2.1;omega
  have HLE:=Lib.hid (show Po.ackS h f (n-f)=65::(Ed.pn h++(Ed.pn f++Ed.pn (n-f))) from rfl)
  clear hno hyes a1 a2 a4
  go_enter Tryz.func31,Tryz.ntmps31
  go_wp2_with fail
  rw [← HW1.out,← hq]
  clear hq
  refine (HH.out w1).mono ?_
  rintro e w2 ⟨rfl,rfl⟩
  go_wp2_with fail
  refine (HF.out w1).mono ?_
  rintro e w2 ⟨rfl,rfl⟩
  go_wp2_with fail
  refine (HN.out w1).mono ?_
  rintro e w2 ⟨rfl,rfl⟩
  go_wp2_with fail
  obtain ⟨g,hg⟩:∃ g,g=w1.heap.size:=⟨_,rfl⟩
  rw [← hg]
  obtain ⟨w2,hw2⟩:∃ w2,w2=w1.alloc (.cells #[.int .i64 h,.int .i64 f,.int .i64 (n-f)] 3 (0,0)):=⟨_,rfl⟩
  rw [← hw2]
  have hb2:Below w1.heap.size w1 w2:=by rw [hw2];exact (Below.refl _ _).alloc (Nat.le_refl _) _
  have hk2:Blk w2 g 3 #[.int .i64 h,.int .i64 f,.int .i64 (n-f)]:=by rw [hw2,hg];exact Blk.alloc_new w1 _ _
  have c0:=hk2.cell 0
  have c1:=hk2.cell 1
  have c2:=hk2.cell 2
  simp only [List.getElem?_toArray,List.getElem?_cons_zero,List.getElem?_cons_succ] at c0 c1 c2
  have hlt:=hk2.lt
  have HB2:=Lib.hid (HB1.out.trans (hb2.mono HB1.out.size))
  clear hg hw2 hk2 hb2
  refine (HP.out w2 g hlt c0 c1 c2).mono ?_
  rintro e w3 ⟨rfl,hb3⟩
  have HB3:=Lib.hid (HB2.out.trans (hb3.mono HB2.out.size))
  clear hb3 c0 c1 c2 hlt
  go_wp2_with fail
  refine bodyPost_ret (v:=.tuple #[.string (ackB h f n),.int .i64 0]) (by simp [results,Tryz.results31,go_sem];unfold ackB;rw [HLE.out]) rfl ?_
  exact ⟨by rw [HYES.out],HB3.out⟩
theorem Blk.set_ot {w:World} {b:Nat} {t:TypeId} {cs:Array Value} (h:Blk w b t cs) (b' i:Nat) (u:Value) (hne:b≠b'):Blk (w.setCell ⟨b',i,none⟩ u) b t cs:=by
 unfold Blk at *
 rw [Below.heap_setCell _ _ _ _ hne,h]
theorem alloc_size (w:World) (o:Obj):(w.alloc o).heap.size=w.heap.size+1:=Array.size_push _
theorem decAck_nums (s:Po.Str):Po.decAck s=match numsC 65 s with
  | some ([a,b,c],[]) => if a<4∧b≤2147483647∧(c:Int)≤2147483647-(b:Int) then some ((a:Int),(b:Int),(b:Int)+(c:Int)) else none
  | _ => none:=by
 unfold Po.decAck numsC
 by_cases h:s[0]?=some 65
 · rw [if_pos h,if_pos h]
   rfl
 · rw [if_neg h,if_neg h]
def ackVs (ns:List Nat):Array Value:=#[.int .i64 (ns.getD 0 0:Nat),.int .i64 (ns.getD 1 0:Nat),.int .i64 (ns.getD 2 0:Nat)]
theorem ackVs_set {ns:List Nat} (i n:Nat) (h:ns.length=i) (hi:i<3):(ackVs ns).setIfInBounds i (.int .i64 (n:Int))=ackVs (ns++[n]):=by
 match ns,h with
 | [],rfl => simp [ackVs]
 | [a],rfl => simp [ackVs]
 | [a,b],rfl => simp [ackVs]
structure AckI (w W:World) (q0 q1 g:Nat) (i:Nat) (ns:List Nat):Prop where
 below:Below w.heap.size w W
 len:ns.length=i
 small:∀ n∈ns,n<9223372036854775808
 res:Blk W q0 51 #[.int .i64 0,.int .i64 0,.int .i64 0]
 blk:Blk W q1 51 (ackVs ns)
 ptr:Blk W g 142 #[.pointer (some ⟨q1,0,none⟩),.pointer (some ⟨q1,1,none⟩),.pointer (some ⟨q1,2,none⟩)]
theorem AckI.drew {w W:World} {q0 q1 g i:Nat} {ns:List Nat} (h:AckI w W q0 q1 g i ns):AckI w W.drew q0 q1 g i ns:=⟨h.below.drew,h.len,h.small,h.res,h.blk,h.ptr⟩
theorem AckI.set {w W:World} {q0 q1 g i:Nat} {ns:List Nat} (h:AckI w W q0 q1 g i ns) (hq:w.heap.size≤q1) (h0:q0≠q1) (hg:g≠q1) {n:Nat} (hi:i<3) (hn:n<9223372036854775808):AckI w (W.setCell ⟨q1,i,none⟩ (.int .i64 n)) q0 q1 g (i+1) (ns++[n]) :=
 ⟨h.below.setCell (p:=⟨q1,i,none⟩) hq _,by rw [List.length_append,h.len];rfl,fun m hm => by
  rcases List.mem_append.1 hm with hm | hm
  · exact h.small m hm
  · rw [List.mem_singleton.1 hm];exact hn,
  h.res.set_ot _ _ _ h0,(by rw [← ackVs_set i n h.len hi];exact h.blk.set i _),h.ptr.set_ot _ _ _ hg⟩
def decAckV (s:Po.Str):Value:=match Po.decAck s with
 | some (h,f,n) => .tuple #[ackV h f n,.int .i64 0]
 | none => .tuple #[ackV 0 0 0,.int .i64 30]
set_option maxHeartbeats 4000000 in
theorem decAck_any (s:ByteArray) (hs:s.size≤maxLen) (w:World):Calls Tryz.prog 23 #[.string s] w fun e w' => e=.returned (decAckV s.data.toList)∧Below w.heap.size w w':=by
 obtain ⟨q0,hq0⟩:∃ q,q=w.heap.size:=⟨_,rfl⟩
 obtain ⟨w1,hw1⟩:∃ w1,w1=w.alloc (.cells #[.int .i64 0,.int .i64 0,.int .i64 0] 51 (0,0)):=⟨_,rfl⟩
 have hb1:Below w.heap.size w w1:=by rw [hw1];exact (Below.refl _ _).alloc (Nat.le_refl _) _
 have hk1:Blk w1 q0 51 #[.int .i64 0,.int .i64 0,.int .i64 0]:=by rw [hw1,hq0];exact Blk.alloc_new w _ _
 obtain ⟨q1,hq1⟩:∃ q,q=w1.heap.size:=⟨_,rfl⟩
 obtain ⟨w2,hw2⟩:∃ w2,w2=w1.alloc (.cells #[.int .i64 0,.int .i64 0,.int .i64 0] 51 (0,0)):=⟨_,rfl⟩
 have hb2:Below w1.heap.size w1 w2:=by rw [hw2];exact (Below.refl _ _).alloc (Nat.le_refl _) _
 have hk2:Blk w2 q1 51 #[.int .i64 0,.int .i64 0,.int .i64 0]:=by rw [hw2,hq1];exact Blk.alloc_new w1 _ _
 obtain ⟨g,hg⟩:∃ q,q=w2.heap.size:=⟨_,rfl⟩
 obtain ⟨w3,hw3⟩:∃ w3,w3=w2.alloc (.cells #[.pointer (some ⟨q1,0,none⟩),.pointer (some ⟨q1,1,none⟩),.pointer (some ⟨q1,2,none⟩)] 142 (0,0)):=⟨_,rfl⟩
 have hb3:Below w2.heap.size w2 w3:=by rw [hw3];exact (Below.refl _ _).alloc (Nat.le_refl _) _
 have hk3:Blk w3 g 142 #[.pointer (some ⟨q1,0,none⟩),.pointer (some ⟨q1,1,none⟩),.pointer (some ⟨q1,2,none⟩)]:=by rw [hw3,hg];exact Blk.alloc_new w2 _ _
 have hle0:w.heap.size≤q0:=by omega
 have hle1:w.heap.size≤q1:=by have:=hb1.size;omega
 have hn01:q0≠q1:=by have:=hk1.lt;omega
 have hng1:g≠q1:=by have:=hk2.lt;omega
 have hi0:AckI w w3 q0 q1 g 0 [] :=
  ⟨(hb1.trans (hb2.mono hb1.size)).trans (hb3.mono (by have:=hb1.size;have:=hb2.size;omega)),rfl,(fun _ h => nomatch h),(hk1.below hb2).below hb3,hk2.below hb3,hk3⟩
 have HG:=Lib.hid (gets_any s hs 65 g (fun k => ⟨q1,k,none⟩) w3 (fun i ns W => AckI w W q0 q1 g i ns) hi0 (fun i ns n W hi hn h => h.set hle1 hn01 hng1 hi hn) (fun i ns W h => h.drew) (fun i ns W h k hk => by
  refine ⟨?_,?_,h.blk.free k⟩
  · rw [h.ptr.cell k]
    match k,hk with
    | 0,_ => rfl
    | 1,_ => rfl
    | 2,_ => rfl
  · rw [h.blk.cell k]
    match k,hk with
    | 0,_ => exact ⟨_,rfl⟩
    | 1,_ => exact ⟨_,rfl⟩
    | 2,_ => exact ⟨_,rfl⟩))
 have HW1:=Lib.hid hw1
 have HW2:=Lib.hid hw2
 have HW3:=Lib.hid hw3
 have HQ:=Lib.hid (show w.heap.size≤q0∧w.heap.size≤q1∧q0≠q1 from ⟨hle0,hle1,hn01⟩)
 have e1:q0+1=q1:=by rw [hq1,hw1,hq0,alloc_size]
 have e2:q1+1=g:=by rw [hg,hw2,hq1,alloc_size]
 clear hb1 hk1 hw1 hb2 hk2 hw2 hb3 hk3 hw3 hi0 hs hng1 hn01
 go_enter Tryz.func23,Tryz.ntmps23
 go_wp2_with fail
 rw [← HW1.out,← hq0,e1,e2,← HW2.out,← HW3.out]
 refine HG.out.mono ?_
 rintro e w4 (⟨ns,r,hn,rfl,hI⟩ | ⟨hn,rfl,i,ns,hI⟩)
 case inr =>
  have HNO:=Lib.hid (show Po.decAck s.data.toList=none by rw [decAck_nums,hn])
  clear hn HG e1 e2 HW1 HW2 HW3 hq0 hq1 hg hle0 hle1
  have c0:=hI.res.cell 0
  have c1:=hI.res.cell 1
  have c2:=hI.res.cell 2
  simp only [List.getElem?_toArray,List.getElem?_cons_zero,List.getElem?_cons_succ] at c0 c1 c2
  have f0:=hI.res.free 0
  have f1:=hI.res.free 1
  have f2:=hI.res.free 2
  have hk8:=(((hI.res).set 0 (.int .i64 0)).set 1 (.int .i64 0)).set 2 (.int .i64 0)
  have hb8:=(((hI.below).setCell (p:=⟨q0,0,none⟩) HQ.out.1 (.int .i64 0)).setCell (p:=⟨q0,1,none⟩) HQ.out.1 (.int .i64 0)).setCell (p:=⟨q0,2,none⟩) HQ.out.1 (.int .i64 0)
  simp only [List.setIfInBounds_toArray,List.set_cons_zero,List.set_cons_succ] at hk8
  have HK8:=Lib.hid hk8
  have HB8:=Lib.hid hb8
  clear hk8 hb8 hI
  go_wp2_with fail
  have r0:=HK8.out.cell 0
  have r1:=HK8.out.cell 1
  have r2:=HK8.out.cell 2
  simp only [List.getElem?_toArray,List.getElem?_cons_zero,List.getElem?_cons_succ] at r0 r1 r2
  refine bodyPost_ret (v:=.tuple #[.agg #[.int .i64 0,.int .i64 0,.int .i64 0],.int .i64 30]) (by simp [results,Tryz.results23,go_sem,r0,r1,r2]) rfl ?_
  exact ⟨by unfold decAckV;rw [HNO.out];rfl,HB8.out⟩
 case inl =>
  have hl:=hI.len
  match ns,hl with
  | [a,b,c],_ =>
  have sa:=hI.small a (by simp)
  have sb:=hI.small b (by simp)
  have sc:=hI.small c (by simp)
  have HD:=decAck_nums s.data.toList
  rw [hn] at HD
  have HH:=Lib.hid (fun W:World => host_any (a:Int) W)
  have HR:=Lib.hid (fun W:World => record_any (b:Int) W)
  clear hn HG e1 e2 HW1 HW2 HW3 hq0 hq1 hg hle0 hle1 hl
  have k0:=hI.blk.cell 0
  have k1:=hI.blk.cell 1
  have k2:=hI.blk.cell 2
  have c0:=hI.res.cell 0
  have c1:=hI.res.cell 1
  have c2:=hI.res.cell 2
  simp only [ackVs,List.getElem?_toArray,List.getElem?_cons_zero,List.getElem?_cons_succ,List.getD_cons_zero,List.getD_cons_succ] at k0 k1 k2 c0 c1 c2
  have f0:=hI.res.free 0
  have f1:=hI.res.free 1
  have f2:=hI.res.free 2
  have fk2:=hI.blk.free 2
  cases r with
  | cons x r =>
   have HNO:=Lib.hid (show Po.decAck s.data.toList=none from HD)
   obtain ⟨R,hR⟩:∃ R:ByteArray,R=⟨(x::r).toArray⟩:=⟨_,rfl⟩
   rw [← hR]
   have hne:R.toList.isEmpty=false:=by rw [Lib.toList_data,hR];rfl
   clear HD HH HR hR
   have hk8:=(((hI.res).set 0 (.int .i64 0)).set 1 (.int .i64 0)).set 2 (.int .i64 0)
   have hb8:=(((hI.below).setCell (p:=⟨q0,0,none⟩) HQ.out.1 (.int .i64 0)).setCell (p:=⟨q0,1,none⟩) HQ.out.1 (.int .i64 0)).setCell (p:=⟨q0,2,none⟩) HQ.out.1 (.int .i64 0)
   simp only [List.setIfInBounds_toArray,List.set_cons_zero,List.set_cons_succ] at hk8
   have HK8:=Lib.hid hk8
   have HB8:=Lib.hid hb8
   clear hk8 hb8 hI
   go_wp2_with fail
   have r0:=HK8.out.cell 0
   have r1:=HK8.out.cell 1
   have r2:=HK8.out.cell 2
   simp only [List.getElem?_toArray,List.getElem?_cons_zero,List.getElem?_cons_succ] at r0 r1 r2
   refine bodyPost_ret (v:=.tuple #[.agg #[.int .i64 0,.int .i64 0,.int .i64 0],.int .i64 30]) (by simp [results,Tryz.results23,go_sem,r0,r1,r2]) rfl ?_
   exact ⟨by unfold decAckV;rw [HNO.out];rfl,HB8.out⟩
  | nil =>
   simp only at HD
   by_cases a1:a<4
   case neg =>
    rw [if_neg (fun e => a1 e.1)] at HD
    have HNO:=Lib.hid HD
    rw [decide_eq_false (fun e:Po.HostOk (a:Int) => a1 (by have:=e.2;omega))] at HH
    clear HD HR a1
    have hk8:=(((hI.res).set 0 (.int .i64 0)).set 1 (.int .i64 0)).set 2 (.int .i64 0)
    have hb8:=(((hI.below).setCell (p:=⟨q0,0,none⟩) HQ.out.1 (.int .i64 0)).setCell (p:=⟨q0,1,none⟩) HQ.out.1 (.int .i64 0)).setCell (p:=⟨q0,2,none⟩) HQ.out.1 (.int .i64 0)
    simp only [List.setIfInBounds_toArray,List.set_cons_zero,List.set_cons_succ] at hk8
    have HK8:=Lib.hid hk8
    have HB8:=Lib.hid hb8
    clear hk8 hb8 hI
    go_wp2_with fail
    refine (HH.out _).mono ?_
    rintro e w5 ⟨rfl,rfl⟩
    go_wp2_with fail
    have r0:=HK8.out.cell 0
    have r1:=HK8.out.cell 1
    have r2:=HK8.out.cell 2
    simp only [List.getElem?_toArray,List.getElem?_cons_zero,List.getElem?_cons_succ] at r0 r1 r2
    refine bodyPost_ret (v:=.tuple #[.agg #[.int .i64 0,.int .i64 0,.int .i64 0],.int .i64 30]) (by simp [results,Tryz.results23,go_sem,r0,r1,r2]) rfl ?_
    exact ⟨by unfold decAckV;rw [HNO.out];rfl,HB8.out⟩
   case pos =>
   rw [decide_eq_true (show Po.HostOk (a:Int) from ⟨by omega,by omega⟩)] at HH
   by_cases a2:b≤2147483647
   case neg =>
    rw [if_neg (fun e => a2 e.2.1)] at HD
    have HNO:=Lib.hid HD
    rw [decide_eq_false (fun e:Po.RecOk (b:Int) => a2 (by have:=e.2;omega))] at HR
    clear HD a1 a2
    have hk8:=(((hI.res).set 0 (.int .i64 0)).set 1 (.int .i64 0)).set 2 (.int .i64 0)
    have hb8:=(((hI.below).setCell (p:=⟨q0,0,none⟩) HQ.out.1 (.int .i64 0)).setCell (p:=⟨q0,1,none⟩) HQ.out.1 (.int .i64 0)).setCell (p:=⟨q0,2,none⟩) HQ.out.1 (.int .i64 0)
    simp only [List.setIfInBounds_toArray,List.set_cons_zero,List.set_cons_succ] at hk8
    have HK8:=Lib.hid hk8
    have HB8:=Lib.hid hb8
    clear hk8 hb8 hI
    go_wp2_with fail
    refine (HH.out _).mono ?_
    rintro e w5 ⟨rfl,rfl⟩
    go_wp2_with fail
    refine (HR.out _).mono ?_
    rintro e w5 ⟨rfl,rfl⟩
    go_wp2_with fail
    have r0:=HK8.out.cell 0
    have r1:=HK8.out.cell 1
    have r2:=HK8.out.cell 2
    simp only [List.getElem?_toArray,List.getElem?_cons_zero,List.getElem?_cons_succ] at r0 r1 r2
    refine bodyPost_ret (v:=.tuple #[.agg #[.int .i64 0,.int .i64 0,.int .i64 0],.int .i64 30]) (by simp [results,Tryz.results23,go_sem,r0,r1,r2]) rfl ?_
    exact ⟨by unfold decAckV;rw [HNO.out];rfl,HB8.out⟩
   case pos =>
   rw [decide_eq_true (show Po.RecOk (b:Int) from ⟨by omega,by omega⟩)] at HR
   have hm1:(-9223372036854775808:Int)≤2147483647-(b:Int):=by omega
   have hm2:(2147483647-(b:Int))<9223372036854775808:=by omega
   by_cases a3:(c:Int)>2147483647-(b:Int)
   case pos =>
    rw [if_neg (fun e => by omega)] at HD
    have HNO:=Lib.hid HD
    clear HD a1 a2
    have hk8:=(((hI.res).set 0 (.int .i64 0)).set 1 (.int .i64 0)).set 2 (.int .i64 0)
    have hb8:=(((hI.below).setCell (p:=⟨q0,0,none⟩) HQ.out.1 (.int .i64 0)).setCell (p:=⟨q0,1,none⟩) HQ.out.1 (.int .i64 0)).setCell (p:=⟨q0,2,none⟩) HQ.out.1 (.int .i64 0)
    simp only [List.setIfInBounds_toArray,List.set_cons_zero,List.set_cons_succ] at hk8
    have HK8:=Lib.hid hk8
    have HB8:=Lib.hid hb8
    clear hk8 hb8 hI
    go_wp2_with fail
    refine (HH.out _).mono ?_
    rintro e w5 ⟨rfl,rfl⟩
    go_wp2_with fail
    refine (HR.out _).mono ?_
    rintro e w5 ⟨rfl,rfl⟩
    go_wp2_with fail
    have r0:=HK8.out.cell 0
    have r1:=HK8.out.cell 1
    have r2:=HK8.out.cell 2
    simp only [List.getElem?_toArray,List.getElem?_cons_zero,List.getElem?_cons_succ] at r0 r1 r2
    refine bodyPost_ret (v:=.tuple #[.agg #[.int .i64 0,.int .i64 0,.int .i64 0],.int .i64 30]) (by simp [results,Tryz.results23,go_sem,r0,r1,r2]) rfl ?_
    exact ⟨by unfold decAckV;rw [HNO.out];rfl,HB8.out⟩
   case neg =>
    rw [if_pos (by omega)] at HD
    have HYES:=Lib.hid HD
    clear HD a1 a2
    have hkx:=hI.blk.set 2 (.int .i64 ((c:Int)+(b:Int)))
    have hkr:=hI.res.set_ot q1 2 (.int .i64 ((c:Int)+(b:Int))) HQ.out.2.2
    have hbx:=hI.below.setCell (p:=⟨q1,2,none⟩) HQ.out.2.1 (.int .i64 ((c:Int)+(b:Int)))
    simp only [ackVs,List.getD_cons_zero,List.getD_cons_succ,List.setIfInBounds_toArray,List.set_cons_zero,List.set_cons_succ] at hkx
    obtain ⟨y1,hy1⟩:∃ y,y=w4.setCell ⟨q1,2,none⟩ (.int .i64 ((c:Int)+(b:Int))):=⟨_,rfl⟩
    rw [← hy1] at hkx hkr hbx
    have HY1:=Lib.hid hy1
    have HKX:=Lib.hid hkx
    have HKR:=Lib.hid hkr
    have HBX:=Lib.hid hbx
    rw [hy1] at hkx hkr
    have z0:=hkx.cell 0
    have z1:=hkx.cell 1
    have z2:=hkx.cell 2
    have x0:=hkr.cell 0
    have x1:=hkr.cell 1
    have x2:=hkr.cell 2
    simp only [List.getElem?_toArray,List.getElem?_cons_zero,List.getElem?_cons_succ] at z0 z1 z2 x0 x1 x2
    have g0:=hkr.free 0
    have g1:=hkr.free 1
    have g2:=hkr.free 2
    clear hkx hkr hbx hy1 hI
    go_wp2_with fail
    refine (HH.out _).mono ?_
    rintro e w5 ⟨rfl,rfl⟩
    go_wp2_with fail
    refine (HR.out _).mono ?_
    rintro e w5 ⟨rfl,rfl⟩
    go_wp2_with fail
    rw [← HY1.out]
    have hk8:=((HKR.out.set 0 (.int .i64 a)).set 1 (.int .i64 b)).set 2 (.int .i64 ((c:Int)+(b:Int)))
    have hb8:=((HBX.out.setCell (p:=⟨q0,0,none⟩) HQ.out.1 (.int .i64 a)).setCell (p:=⟨q0,1,none⟩) HQ.out.1 (.int .i64 b)).setCell (p:=⟨q0,2,none⟩) HQ.out.1 (.int .i64 ((c:Int)+(b:Int)))
    simp only [List.setIfInBounds_toArray,List.set_cons_zero,List.set_cons_succ] at hk8
    have HB8:=Lib.hid hb8
    have r0:=hk8.cell 0
    have r1:=hk8.cell 1
    have r2:=hk8.cell 2
    simp only [List.getElem?_toArray,List.getElem?_cons_zero,List.getElem?_cons_succ] at r0 r1 r2
    clear hk8 hb8
    refine bodyPost_ret (v:=.tuple #[.agg #[.int .i64 a,.int .i64 b,.int .i64 ((c:Int)+(b:Int))],.int .i64 0]) (by simp [results,Tryz.results23,go_sem,r0,r1,r2]) rfl ?_
    refine ⟨?_,HB8.out⟩
    unfold decAckV ackV
    rw [HYES.out]
    simp only
    rw [Int.add_comm (c:Int) (b:Int)]
end Go.Proofs.YtdacanghbepjpaaGreatDoor
namespace Go.Proofs.YtdacanghbepjpaaGreatDoor
set_option linter.unusedSimpArgs false
set_option linter.unusedVariables false
set_option maxRecDepth 100000
open Go.RowKit Go.Maps
theorem rdSp_cells {w:World} {v:Value} {l:List Sp.Span} (h:RdSp w v l):∃ x c,v=.slice x l.length c∧l.length≤c∧∀ (j:Nat) (hj:j<l.length),∃ b off,x=some ⟨b,off,none⟩∧b<w.heap.size ∧
  w.cell? ⟨b,off+j*8,none⟩=some (.int .i64 l[j].trace)∧w.cell? ⟨b,off+j*8+1,none⟩=some (.int .i64 l[j].id)∧w.cell? ⟨b,off+j*8+2,none⟩=some (.int .i64 l[j].parent)∧w.cell? ⟨b,off+j*8+3,none⟩=some (.string l[j].service) ∧
  w.cell? ⟨b,off+j*8+4,none⟩=some (.string l[j].host)∧w.cell? ⟨b,off+j*8+5,none⟩=some (.int .i64 l[j].start)∧w.cell? ⟨b,off+j*8+6,none⟩=some (.int .i64 l[j].dur)∧w.cell? ⟨b,off+j*8+7,none⟩=some (.string l[j].note):=by
 obtain ⟨x,c,e,hc,h⟩:=h
 refine ⟨x,c,e,hc,fun j hj => ?_⟩
 obtain ⟨b,off,e,hb,k⟩:=h j hj
 exact ⟨b,off,e,hb,k 0 _ rfl,k 1 _ rfl,k 2 _ rfl,k 3 _ rfl,k 4 _ rfl,k 5 _ rfl,k 6 _ rfl,k 7 _ rfl⟩
def upB (h f n:Int) (l:List Sp.Span):ByteArray:=⟨(66::(Ed.pn h++(Ed.pn f++(Ed.pn n++Po.bodyT l)))).toArray⟩
theorem tx_le {x:Sp.Span} (h:Sp.May x):(Po.tx x).length≤121:=by
 unfold Po.tx Ed.encT
 have h1:=Sp.enc_len h
 have h2:=pnB_size (n:=(Sp.enc x).length) (by omega)
 have h3:(pnB (Sp.enc x).length).size=(Ed.pn (Sp.enc x).length).length:=by unfold pnB;rw [size_l]
 rw [List.length_append]
 omega
theorem bodyT_le:∀ {l:List Sp.Span},(∀ y∈l,Sp.May y)→(Po.bodyT l).length≤121*l.length
 | [],_ => by simp [Po.bodyT]
 | x::l,h => by
  rw [Po.bodyT_cons,List.length_append,List.length_cons]
  have h1:=tx_le (h x (by simp))
  have h2:=bodyT_le (l:=l) fun y hy => h y (by simp [hy])
  omega
theorem upB_size {h f n:Int} {l:List Sp.Span} (hh:h<9223372036854775808) (hf:f<9223372036854775808) (hn:n<9223372036854775808) (hm:∀ y∈l,Sp.May y):(upB h f n l).size≤28+121*l.length:=by
 have h1:=pnB_size hh
 have h2:=pnB_size hf
 have h3:=pnB_size hn
 have h4:=bodyT_le hm
 unfold pnB at h1 h2 h3
 rw [size_l] at h1 h2 h3
 unfold upB
 rw [size_l]
 simp only [List.length_cons,List.length_append]
 omega
theorem upB_snoc (h f n:Int) (l:List Sp.Span) (x:Sp.Span) (E:ByteArray) (hE:E.data.toList=Sp.enc x):upB h f n l++encTB E=upB h f n (l++[x]):=by
 unfold upB encTB
 rw [hE,Po.bodyT_snoc]
 apply bytes_ext
 simp [Po.tx]
theorem upB_nil (h f n:Int):(⟨(66::(Ed.pn h++(Ed.pn f++Ed.pn n))).toArray⟩:ByteArray)=upB h f n []:=by
 unfold upB
 simp [Po.bodyT]
set_option maxHeartbeats 8000000 in
theorem encBatch_ok (h f:Int) (l:List Sp.Span) (v:Value) (w:World) (hv:RdSp w v l) (hh:Po.HostOk h) (hf:Po.RecOk f) (hfl:Po.RecOk (f+l.length)) (hl:1≤l.length∧l.length≤8) (hm:∀ y∈l,Sp.May y) :
  Calls Tryz.prog 123 #[.agg #[.int .i64 h,.int .i64 f,v]] w fun e w' => e=.returned (.tuple #[.string (batchB h f l),.int .i64 0])∧Below w.heap.size w w':=by
 obtain ⟨x,c,rfl,hc,hx⟩:=rdSp_cells hv
 obtain ⟨n,hn⟩:∃ n,n=l.length:=⟨_,rfl⟩
 have hbb:batchB h f l=upB h f n l:=by rw [hn];rfl
 have HX:=Lib.hid hx
 rw [← hn] at hc hfl hl ⊢
 rw [hbb]
 obtain ⟨q,hq⟩:∃ q,q=w.heap.size:=⟨_,rfl⟩
 obtain ⟨w1,hw1⟩:∃ w1,w1=w.alloc (.cells #[.int .i64 h,.int .i64 f,.slice x n c] 63 (0,0)):=⟨_,rfl⟩
 have hb1:Below w.heap.size w w1:=by rw [hw1];exact (Below.refl _ _).alloc (Nat.le_refl _) _
 have hk1:Blk w1 q 63 #[.int .i64 h,.int .i64 f,.slice x n c]:=by rw [hw1,hq];exact Blk.alloc_new w _ _
 have HB1:=Lib.hid hb1
 have HK1:=Lib.hid hk1
 have k0:=hk1.cell 0
 have k1:=hk1.cell 1
 have k2:=hk1.cell 2
 simp only [List.getElem?_toArray,List.getElem?_cons_zero,List.getElem?_cons_succ] at k0 k1 k2
 have HW1:=Lib.hid hw1
 have HH:=Lib.hid (fun W:World => host_any h W)
 have HF:=Lib.hid (fun W:World => record_any f W)
 have HN:=Lib.hid (fun W:World => record_any (f+n) W)
 rw [decide_eq_true hh] at HH
 rw [decide_eq_true hf] at HF
 rw [decide_eq_true hfl] at HN
 have hz:=putsB_list 66 h f n
 have HP:=Lib.hid (fun (W:World) (g:Nat) => puts_any ⟨#[66]⟩ (show 1≤10 by decide) h f n ⟨hh.1,by have:=hh.2;omega⟩ ⟨hf.1,by have:=hf.2;omega⟩ ⟨by omega,by omega⟩ W g)
 rw [hz,upB_nil] at HP
 have HM:=Lib.hid hm
 have HNL:=Lib.hid hn
 have HSZ:=Lib.hid (fun (k:Nat) => upB_size (h:=h) (f:=f) (n:=n) (l:=l.take k) (by have:=hh.2;omega) (by have:=hf.2;omega) (by omega) fun y hy => hm y (List.mem_of_mem_take hy))
 have hn8:(n:Int)≤8:=by omega
 have hn1:(1:Int)≤n:=by omega
 have hn0:((n:Int) == 0)=false:=by rw [beq_eq_false_iff_ne];omega
 have hf1:=hf.1
 have hf2:=hf.2
 clear hb1 hk1 hw1 hx hbb hz hm hh hf hfl hn hc hv
 go_enter Tryz.func123,Tryz.ntmps123
 go_wp2_with fail
 rw [← HW1.out,← hq]
 clear hq
 refine (HH.out w1).mono ?_
 rintro e w2 ⟨rfl,rfl⟩
 go_wp2_with fail
 refine (HF.out w1).mono ?_
 rintro e w2 ⟨rfl,rfl⟩
 go_wp2_with fail
 refine (HN.out w1).mono ?_
 rintro e w2 ⟨rfl,rfl⟩
 go_wp2_with fail
 obtain ⟨g,hg⟩:∃ g,g=w1.heap.size:=⟨_,rfl⟩
 rw [← hg]
 obtain ⟨w2,hw2⟩:∃ w2,w2=w1.alloc (.cells #[.int .i64 h,.int .i64 f,.int .i64 n] 3 (0,0)):=⟨_,rfl⟩
 rw [← hw2]
 have hb2:Below w1.heap.size w1 w2:=by rw [hw2];exact (Below.refl _ _).alloc (Nat.le_refl _) _
 have hk2:Blk w2 g 3 #[.int .i64 h,.int .i64 f,.int .i64 n]:=by rw [hw2,hg];exact Blk.alloc_new w1 _ _
 have c0:=hk2.cell 0
 have c1:=hk2.cell 1
 have c2:=hk2.cell 2
 simp only [List.getElem?_toArray,List.getElem?_cons_zero,List.getElem?_cons_succ] at c0 c1 c2
 have hlt:=hk2.lt
 have HB2:=Lib.hid (HB1.out.trans (hb2.mono HB1.out.size))
 have HK2:=Lib.hid (HK1.out.below hb2)
 clear hg hw2 hk2 hb2 k0 k1 k2
 refine (HP.out w2 g hlt c0 c1 c2).mono ?_
 rintro e w3 ⟨rfl,hb3⟩
 have HB3:=Lib.hid (HB2.out.trans (hb3.mono HB2.out.size))
 have hk3:=HK2.out.below hb3
 have k2:=hk3.cell 2
 simp only [List.getElem?_toArray,List.getElem?_cons_zero,List.getElem?_cons_succ] at k2
 clear hb3 c0 c1 c2 hlt hk3 HP HH HF HN HB2 HK2
 go_wp2_with fail
 go_loopw [4,53] (fun v4 v53 wr => ∃ i:Nat,v53=.int .i64 i∧i≤n∧v4=.string (upB h f n (l.take i))∧Below w.heap.size w wr) (fun _ v53 _ => n-(intOf v53).toNat)
 case atStart => exact ⟨0,rfl,by omega,rfl,HB3.out⟩
 case round =>
  obtain ⟨i,rfl,hi,rfl,hbw⟩:=hrel
  have HB:=Lib.hid hbw
  clear hbw
  have hz:=HSZ.out i
  by_cases hlt:i<n
  · have hlt2:(i:Int)<n:=by omega
    have hil:i<l.length:=by rw [← HNL.out];exact hlt
    obtain ⟨b1,o1,rfl,l1,p0,p1,p2,p3,p4,p5,p6,p7⟩:=HX.out i hil
    have g0:=(HB.out.cell (p:=⟨b1,o1+i*8,none⟩) l1).trans p0
    have g1:=(HB.out.cell (p:=⟨b1,o1+i*8+1,none⟩) l1).trans p1
    have g2:=(HB.out.cell (p:=⟨b1,o1+i*8+2,none⟩) l1).trans p2
    have g3:=(HB.out.cell (p:=⟨b1,o1+i*8+3,none⟩) l1).trans p3
    have g4:=(HB.out.cell (p:=⟨b1,o1+i*8+4,none⟩) l1).trans p4
    have g5:=(HB.out.cell (p:=⟨b1,o1+i*8+5,none⟩) l1).trans p5
    have g6:=(HB.out.cell (p:=⟨b1,o1+i*8+6,none⟩) l1).trans p6
    have g7:=(HB.out.cell (p:=⟨b1,o1+i*8+7,none⟩) l1).trans p7
    have hmx:=HM.out l[i] (List.getElem_mem hil)
    have hst:l.take (i+1)=l.take i++[l[i]]:=by rw [List.take_succ_eq_append_getElem hil]
    obtain ⟨y,hy⟩:∃ y,y=l[i]:=⟨_,rfl⟩
    rw [← hy] at g0 g1 g2 g3 g4 g5 g6 g7 hmx hst
    have hel:=Sp.enc_len hmx
    have HE:=Lib.hid (fun W:World => hencode_any (w:=W) y (by have:=hmx.service.2.1;unfold maxLen;omega) (by have:=hmx.host.2.1;unfold maxLen;omega) (by have:=hmx.note;unfold maxLen;omega))
    have esq:spQ y=(Sp.enc y,0):=by unfold spQ;exact if_pos hmx
    rw [esq] at HE
    simp only at HE
    obtain ⟨E,hE⟩:∃ E:ByteArray,E=⟨(Sp.enc y).toArray⟩:=⟨_,rfl⟩
    rw [← hE] at HE
    have hEl:E.data.toList=Sp.enc y:=by rw [hE]
    have hEz:E.size≤112:=by have:=congrArg List.length hEl;rw [Sp.size_toList] at this;omega
    have HPT:=Lib.hid (fun W:World => putText_any E W (by omega))
    have hsn:=upB_snoc h f n (l.take i) y E hEl
    rw [← hst] at hsn
    have hsz2:=HSZ.out (i+1)
    have hlen1:(l.take i).length≤8:=by rw [List.length_take];omega
    have hlen2:(l.take (i+1)).length≤8:=by rw [List.length_take];omega
    obtain ⟨S,hS⟩:∃ S,S=upB h f n (l.take i):=⟨_,rfl⟩
    rw [← hS] at hz hsn ⊢
    obtain ⟨T,hT⟩:∃ T,T=encTB E:=⟨_,rfl⟩
    rw [← hT] at HPT hsn
    have hts:S.size+T.size≤100000:=by
     have:=congrArg ByteArray.size hsn
     rw [ByteArray.size_append] at this
     omega
    have HSN:=Lib.hid hsn
    obtain ⟨tr,id,pa,se,ho,sa,du,no⟩:=y
    unfold spV at HE
    simp only at HE g0 g1 g2 g3 g4 g5 g6 g7
    clear hy hmx hst hel esq hE hEl hsn hsz2 hlen1 hlen2 hS hT hEz p0 p1 p2 p3 p4 p5 p6 p7 hz
    go_wp2_with fail
    obtain ⟨w4,hw4⟩:∃ w4,w4=wr.alloc (.cells #[.int .i64 tr,.int .i64 id,.int .i64 pa,.string se,.string ho,.int .i64 sa,.int .i64 du,.string no] 47 (0,0)):=⟨_,rfl⟩
    rw [← hw4]
    have hb4:Below wr.heap.size wr w4:=by rw [hw4];exact (Below.refl _ _).alloc (Nat.le_refl _) _
    have HB4:=Lib.hid (HB.out.trans (hb4.mono HB.out.size))
    clear hb4 hw4 g0 g1 g2 g3 g4 g5 g6 g7
    refine (HE.out w4).mono ?_
    rintro e w5 ⟨rfl,hb5⟩
    have HB5:=Lib.hid (HB4.out.trans (hb5.mono HB4.out.size))
    clear hb5 HE
    go_wp2_with fail
    refine (HPT.out w5).mono ?_
    rintro e w6 ⟨rfl,hb6⟩
    have HB6:=Lib.hid (HB5.out.trans (hb6.mono HB5.out.size))
    clear hb6 HPT
    go_wp2_with fail
    go_roundw
    case rel => exact ⟨i+1,by go_num,by omega,by rw [HSN.out],HB6.out⟩
    case measure => simp [intOf];omega
  · obtain rfl:i=n:=by omega
    have hall:l.take i=l:=List.take_of_length_le (by rw [← HNL.out];exact Nat.le_refl _)
    rw [hall]
    go_wp2_with fail
    refine bodyPost_ret (v:=.tuple #[.string (upB h f i l),.int .i64 0]) (by simp [results,Tryz.results123,go_sem]) rfl ?_
    exact ⟨rfl,HB.out⟩
end Go.Proofs.YtdacanghbepjpaaGreatDoor
namespace Go.Proofs.YtdacanghbepjpaaGreatDoor
set_option linter.unusedSimpArgs false
set_option linter.unusedVariables false
set_option maxRecDepth 100000
open Go.RowKit Go.Maps
def batVs (ns:List Nat):Array Value:=#[.int .i64 (ns.getD 0 0:Nat),.int .i64 (ns.getD 1 0:Nat),.slice none 0 0]
def manyVs (ns:List Nat):Array Value:=#[.int .i64 (ns.getD 2 0:Nat)]
def batPa (q1 q5:Nat):Nat→Addr
 | 0 => ⟨q1,0,none⟩
 | 1 => ⟨q1,1,none⟩
 | _ => ⟨q5,0,none⟩
structure BatI (w W:World) (q0 q1 q5 g:Nat) (i:Nat) (ns:List Nat):Prop where
 below:Below w.heap.size w W
 len:ns.length=i
 res:Blk W q0 63 #[.int .i64 0,.int .i64 0,.slice none 0 0]
 blk:Blk W q1 63 (batVs ns)
 many:Blk W q5 3 (manyVs ns)
 ptr:Blk W g 142 #[.pointer (some ⟨q1,0,none⟩),.pointer (some ⟨q1,1,none⟩),.pointer (some ⟨q5,0,none⟩)]
theorem BatI.drew {w W:World} {q0 q1 q5 g i:Nat} {ns:List Nat} (h:BatI w W q0 q1 q5 g i ns):BatI w W.drew q0 q1 q5 g i ns:=⟨h.below.drew,h.len,h.res,h.blk,h.many,h.ptr⟩
theorem BatI.set {w W:World} {q0 q1 q5 g i:Nat} {ns:List Nat} (h:BatI w W q0 q1 q5 g i ns) (hq:w.heap.size≤q1∧w.heap.size≤q5) (h0:q0≠q1∧q0≠q5∧q1≠q5∧g≠q1∧g≠q5) {n:Nat} (hi:i<3):BatI w (W.setCell (batPa q1 q5 i) (.int .i64 n)) q0 q1 q5 g (i+1) (ns++[n]):=by
 obtain ⟨n1,n2,n3,n4,n5⟩:=h0
 obtain ⟨hb,hl,hr,hk,hm,hp⟩:=h
 have hl2:(ns++[n]).length=i+1:=by rw [List.length_append,hl];rfl
 match i,ns,hl,hi with
 | 0,[],_,_ => exact ⟨hb.setCell (p:=⟨q1,0,none⟩) hq.1 _,hl2,hr.set_ot _ _ _ n1,hk.set 0 _,hm.set_ot _ _ _ (Ne.symm n3),hp.set_ot _ _ _ n4⟩
 | 1,[a],_,_ => exact ⟨hb.setCell (p:=⟨q1,1,none⟩) hq.1 _,hl2,hr.set_ot _ _ _ n1,hk.set 1 _,hm.set_ot _ _ _ (Ne.symm n3),hp.set_ot _ _ _ n4⟩
 | 2,[a,b],_,_ => exact ⟨hb.setCell (p:=⟨q5,0,none⟩) hq.2 _,hl2,hr.set_ot _ _ _ n2,hk.set_ot _ _ _ n3,hm.set 0 _,hp.set_ot _ _ _ n5⟩
theorem batI_cell {w W:World} {q0 q1 q5 g i:Nat} {ns:List Nat} (h:BatI w W q0 q1 q5 g i ns) (k:Nat) (hk:k<3):W.cell? ⟨g,k,none⟩=some (.pointer (some (batPa q1 q5 k)))∧(∃ u,W.cell? (batPa q1 q5 k)=some u)∧W.frozen? (batPa q1 q5 k)=false:=by
 match k,hk with
 | 0,_ => exact ⟨h.ptr.cell 0,⟨_,h.blk.cell 0⟩,h.blk.free 0⟩
 | 1,_ => exact ⟨h.ptr.cell 1,⟨_,h.blk.cell 1⟩,h.blk.free 1⟩
 | 2,_ => exact ⟨h.ptr.cell 2,⟨_,h.many.cell 0⟩,h.many.free 0⟩
theorem numsC_batch {h f n:Int} (hh:0≤h∧h<9223372036854775808) (hf:0≤f∧f<9223372036854775808) (hn:0≤n∧n<9223372036854775808) (r:Po.Str):numsC 66 (66::(Ed.pn h++(Ed.pn f++(Ed.pn n++r))))=some ([h.toNat,f.toNat,n.toNat],r):=by
 unfold numsC
 rw [if_pos (by simp)]
 simp only [List.drop_succ_cons,List.drop_zero]
 rw [Po.nums_pn hh.1 hh.2,Po.nums_pn hf.1 hf.2,Po.nums_pn hn.1 hn.2]
 simp only [Po.nums]
def restB (l:List Sp.Span) (i:Nat):ByteArray:=⟨(Po.bodyT (l.drop i)).toArray⟩
theorem restB_txt {l:List Sp.Span} {i:Nat} (hi:i<l.length) (hm:∀ y∈l,Sp.May y):Ed.txt (restB l i).data.toList 0=some (Sp.enc l[i],(Po.tx l[i]).length)∧(Po.tx l[i]).length≤(restB l i).size∧(restB l i).extract (Po.tx l[i]).length (restB l i).size=restB l (i+1):=by
 have e:l.drop i=l[i]::l.drop (i+1):=List.drop_eq_getElem_cons hi
 have hx:=Sp.enc_len (hm _ (List.getElem_mem hi))
 have e2:Po.bodyT (l.drop i)=Po.tx l[i]++Po.bodyT (l.drop (i+1)):=by rw [e,Po.bodyT_cons]
 have h1:=Ed.txt_enc (Sp.enc l[i]) [] (Po.bodyT (l.drop (i+1))) (by omega)
 simp only [List.nil_append,List.length_nil] at h1
 unfold restB
 rw [e2]
 refine ⟨h1,by rw [size_l,List.length_append];omega,?_⟩
 rw [extract_at,size_l]
 simp only [List.length_append,Nat.add_sub_cancel_left]
 rw [List.drop_left,List.take_of_length_le (Nat.le_refl _)]
structure PendS (B:Nat) (w W:World) (sv:Value) (xs:List Sp.Span):Prop where
 chg:Chg (fun k => sv.ownBlock=some k) w W
 sp:OwnSp W B sv xs
theorem PendS.below {B:Nat} {w W W':World} {sv:Value} {xs:List Sp.Span} (h:PendS B w W sv xs) (y:Below W.heap.size W W'):PendS B w W' sv xs:=⟨h.chg.trans (Chg.of_below y),OwnRow.below h.sp y⟩
set_option maxHeartbeats 16000000 in
theorem decBatch_ok (h f:Int) (l:List Sp.Span) (w:World) (hh:Po.HostOk h) (hf:Po.RecOk f) (hfl:Po.RecOk (f+l.length)) (hl:1≤l.length∧l.length≤8) (hm:∀ y∈l,Sp.May y) :
  Calls Tryz.prog 28 #[.string (batchB h f l)] w fun e w' => ∃ sv,e=.returned (.tuple #[.agg #[.int .i64 h,.int .i64 f,sv],.int .i64 0])∧OwnSp w' w.heap.size sv l∧Below w.heap.size w w':=by
 obtain ⟨n,hn⟩:∃ n,n=l.length:=⟨_,rfl⟩
 obtain ⟨h,rfl⟩:∃ k:Nat,h=k:=⟨h.toNat,by have:=hh.1;omega⟩
 obtain ⟨f,rfl⟩:∃ k:Nat,f=k:=⟨f.toNat,by have:=hf.1;omega⟩
 have hup:batchB h f l=upB h f n l:=by rw [hn];rfl
 have hsz:(upB h f n l).size≤2000:=by
  have:=upB_size (h:=(h:Int)) (f:=f) (n:=n) (l:=l) (by have:=hh.2;omega) (by have:=hf.2;omega) (by omega) hm
  omega
 have hnc:numsC 66 (upB h f n l).data.toList=some ([h,f,n],Po.bodyT l):=by
  show numsC 66 (66::(Ed.pn h++(Ed.pn f++(Ed.pn n++Po.bodyT l))))=_
  rw [numsC_batch ⟨hh.1,by have:=hh.2;omega⟩ ⟨hf.1,by have:=hf.2;omega⟩ ⟨by omega,by omega⟩]
  rfl
 obtain ⟨q0,hq0⟩:∃ q,q=w.heap.size:=⟨_,rfl⟩
 obtain ⟨w1,hw1⟩:∃ w1,w1=w.alloc (.cells #[.int .i64 0,.int .i64 0,.slice none 0 0] 63 (0,0)):=⟨_,rfl⟩
 have hb1:Below w.heap.size w w1:=by rw [hw1];exact (Below.refl _ _).alloc (Nat.le_refl _) _
 have hk1:Blk w1 q0 63 #[.int .i64 0,.int .i64 0,.slice none 0 0]:=by rw [hw1,hq0];exact Blk.alloc_new w _ _
 obtain ⟨q1,hq1⟩:∃ q,q=w1.heap.size:=⟨_,rfl⟩
 obtain ⟨w2,hw2⟩:∃ w2,w2=w1.alloc (.cells #[.int .i64 0,.int .i64 0,.slice none 0 0] 63 (0,0)):=⟨_,rfl⟩
 have hb2:Below w1.heap.size w1 w2:=by rw [hw2];exact (Below.refl _ _).alloc (Nat.le_refl _) _
 have hk2:Blk w2 q1 63 #[.int .i64 0,.int .i64 0,.slice none 0 0]:=by rw [hw2,hq1];exact Blk.alloc_new w1 _ _
 obtain ⟨q5,hq5⟩:∃ q,q=w2.heap.size:=⟨_,rfl⟩
 obtain ⟨w3,hw3⟩:∃ w3,w3=w2.alloc (.cells #[.int .i64 0] 3 (0,0)):=⟨_,rfl⟩
 have hb3:Below w2.heap.size w2 w3:=by rw [hw3];exact (Below.refl _ _).alloc (Nat.le_refl _) _
 have hk3:Blk w3 q5 3 #[.int .i64 0]:=by rw [hw3,hq5];exact Blk.alloc_new w2 _ _
 obtain ⟨g,hg⟩:∃ q,q=w3.heap.size:=⟨_,rfl⟩
 obtain ⟨w4,hw4⟩:∃ w4,w4=w3.alloc (.cells #[.pointer (some ⟨q1,0,none⟩),.pointer (some ⟨q1,1,none⟩),.pointer (some ⟨q5,0,none⟩)] 142 (0,0)):=⟨_,rfl⟩
 have hb4:Below w3.heap.size w3 w4:=by rw [hw4];exact (Below.refl _ _).alloc (Nat.le_refl _) _
 have hk4:Blk w4 g 142 #[.pointer (some ⟨q1,0,none⟩),.pointer (some ⟨q1,1,none⟩),.pointer (some ⟨q5,0,none⟩)]:=by rw [hw4,hg];exact Blk.alloc_new w3 _ _
 have s1:=hb1.size
 have s2:=hb2.size
 have s3:=hb3.size
 have l1:=hk1.lt
 have l2:=hk2.lt
 have l3:=hk3.lt
 have hne:q0≠q1∧q0≠q5∧q1≠q5∧g≠q1∧g≠q5:=by omega
 have hge:w.heap.size≤q1∧w.heap.size≤q5:=by omega
 have hi0:BatI w w4 q0 q1 q5 g 0 [] :=
  ⟨((hb1.trans (hb2.mono s1)).trans (hb3.mono (by omega))).trans (hb4.mono (by omega)),rfl,((hk1.below hb2).below hb3).below hb4,(hk2.below hb3).below hb4,hk3.below hb4,hk4⟩
 have hgets:=gets_any (upB h f n l) (by unfold maxLen;omega) 66 g (batPa q1 q5) w4 (fun i ns W => BatI w W q0 q1 q5 g i ns) hi0 (fun i ns n W hi _ h => h.set hge hne hi) (fun i ns W h => h.drew) (fun i ns W h k hk => batI_cell h k hk)
 rw [hnc] at hgets
 have HG:=Lib.hid hgets
 have HW1:=Lib.hid hw1
 have HW2:=Lib.hid hw2
 have HW3:=Lib.hid hw3
 have HW4:=Lib.hid hw4
 have HQ:=Lib.hid (show w.heap.size≤q0∧w.heap.size≤q1∧q0≠q1 from ⟨by omega,hge.1,hne.1⟩)
 have e1:q0+1=q1:=by rw [hq1,hw1,hq0,alloc_size]
 have e2:q1+1=q5:=by rw [hq5,hw2,hq1,alloc_size]
 have e3:q5+1=g:=by rw [hg,hw3,hq5,alloc_size]
 have HH:=Lib.hid (fun W:World => host_any h W)
 have HF:=Lib.hid (fun W:World => record_any f W)
 have HN:=Lib.hid (fun W:World => record_any (f+n) W)
 rw [decide_eq_true hh] at HH
 rw [decide_eq_true hf] at HF
 rw [decide_eq_true (show Po.RecOk (f+n) by rw [hn];exact hfl)] at HN
 rw [hup]
 obtain ⟨U,hU⟩:∃ U,U=upB h f n l:=⟨_,rfl⟩
 rw [← hU] at HG ⊢
 have HNL:=Lib.hid hn
 have HM:=Lib.hid hm
 have hn1:¬ (n:Int)<1:=by omega
 have hn8:¬ (n:Int)>8:=by omega
 have hf1:=hf.1
 have hf2:=hf.2
 have HBOD:=Lib.hid (bodyT_le hm)
 clear hb1 hk1 hw1 hb2 hk2 hw2 hb3 hk3 hw3 hb4 hk4 hw4 s1 s2 s3 l1 l2 l3 hne hge hi0 hgets hnc hup hsz hU hh hf hfl hm hn
 go_enter Tryz.func28,Tryz.ntmps28
 go_wp2_with fail
 rw [← HW1.out,← hq0,e1,e2,e3,← HW2.out,← HW3.out,← HW4.out]
 refine HG.out.mono ?_
 rintro e w5 (⟨ns,r,hns,rfl,hI⟩ | ⟨hns,_⟩)
 case inr => cases hns
 case inl =>
 injection hns with hns
 injection hns with hns1 hns2
 subst hns1 hns2
 clear HG e1 e2 e3 HW1 HW2 HW3 HW4 hq0 hq1 hq5 hg
 have k0:=hI.blk.cell 0
 have k1:=hI.blk.cell 1
 have k2:=hI.blk.cell 2
 have m0:=hI.many.cell 0
 simp only [batVs,manyVs,List.getElem?_toArray,List.getElem?_cons_zero,List.getElem?_cons_succ,List.getD_cons_zero,List.getD_cons_succ] at k0 k1 k2 m0
 have HI:=Lib.hid hI
 clear hI
 go_wp2_with fail
 refine (HH.out w5).mono ?_
 rintro e w6 ⟨rfl,rfl⟩
 go_wp2_with fail
 refine (HF.out w5).mono ?_
 rintro e w6 ⟨rfl,rfl⟩
 go_wp2_with fail
 refine (HN.out w5).mono ?_
 rintro e w6 ⟨rfl,rfl⟩
 go_wp2_with fail
 have HIB:=Lib.hid HI.out.below
 have HIR:=Lib.hid HI.out.res
 have HIK:=Lib.hid HI.out.blk
 go_loopw [6,53] (fun v6 v53 wr => ∃ (i:Nat) (sx:Option Addr) (sc:Nat),v53=.int .i64 i∧i≤n∧v6=.string (restB l i)∧Blk wr q0 63 #[.int .i64 0,.int .i64 0,.slice none 0 0]∧Blk wr q1 63 #[.int .i64 h,.int .i64 f,.slice sx i sc]∧OwnSp wr w.heap.size (.slice sx i sc) (l.take i)∧Below w.heap.size w wr) (fun _ v53 _ => n-(intOf v53).toNat)
 case atStart => exact ⟨0,none,0,rfl,by omega,rfl,HIR.out,HIK.out,OwnRow.nil _ _,HIB.out⟩
 case round =>
  obtain ⟨i,sx,sc,rfl,hi,rfl,hr0,hk,hsp,hbw⟩:=hrel
  have HB:=Lib.hid hbw
  have HR0:=Lib.hid hr0
  have HKQ:=Lib.hid hk
  have HSP:=Lib.hid hsp
  clear hbw hr0 hk hsp HIB HIR HIK HI k0 k1 k2 m0
  by_cases hlt:i<n
  · have hlt2:(i:Int)<n:=by omega
    have hil:i<l.length:=by rw [← HNL.out];exact hlt
    obtain ⟨t1,t2,t3⟩:=restB_txt hil HM.out
    have hRz:(restB l i).size≤2000:=by
     unfold restB
     rw [size_l]
     have e1:(Po.bodyT (l.drop i)).length≤121*(l.drop i).length:=bodyT_le fun y hy => HM.out y (List.mem_of_mem_drop hy)
     have e2:(l.drop i).length≤8:=by rw [List.length_drop];omega
     omega
    have hgt:=fun W => getText_any (restB l i) 0 W (by unfold maxLen;omega) (by omega)
    rw [t1] at hgt
    unfold txtE at hgt
    have HGT:=Lib.hid hgt
    have HDC:=Lib.hid (fun W:World => hdecode_enc (w:=W) l[i] (HM.out _ (List.getElem_mem hil)) ⟨(Sp.enc l[i]).toArray⟩ (by simp))
    have HTK:=Lib.hid (List.take_succ_eq_append_getElem hil)
    have HNX:=Lib.hid t3
    have hxl:(l.take i).length=i:=by rw [List.length_take];omega
    obtain ⟨F,hF⟩:∃ F:ByteArray,F=⟨(Sp.enc l[i]).toArray⟩:=⟨_,rfl⟩
    rw [← hF] at HDC
    simp only [← hF] at HGT
    obtain ⟨p,hp⟩:∃ p,p=(Po.tx l[i]).length:=⟨_,rfl⟩
    simp only [← hp] at HGT HNX t2
    obtain ⟨R,hR⟩:∃ R,R=restB l i:=⟨_,rfl⟩
    simp only [← hR] at HGT HNX t2 hRz ⊢
    obtain ⟨y,hy⟩:∃ y,y=l[i]:=⟨_,rfl⟩
    rw [← hy] at HDC HTK
    obtain ⟨xs,hxs⟩:∃ xs,xs=l.take i:=⟨_,rfl⟩
    rw [← hxs] at HSP HTK hxl
    have HXS:=Lib.hid hxl
    clear t1 t3 hgt hF hp hR hy hxs hxl
    obtain ⟨tr,id,pa,se,ho,sa,du,no⟩:=y
    unfold spV at HDC
    simp only at HDC
    go_wp2_with fail
    refine (HGT.out wr).mono ?_
    rintro e y1 ⟨rfl,rfl⟩
    clear HGT
    go_wp2_with fail
    refine (HDC.out wr).mono ?_
    rintro e y2 ⟨rfl,hb2⟩
    have HC2:=Lib.hid hb2
    clear hb2 HDC
    obtain ⟨bx,hbx⟩:∃ bx,bx=y2.heap.size:=⟨_,rfl⟩
    obtain ⟨y3,hy3⟩:∃ y3,y3=y2.alloc (.cells #[.int .i64 tr,.int .i64 id,.int .i64 pa,.string se,.string ho,.int .i64 sa,.int .i64 du,.string no] 47 (0,0)):=⟨_,rfl⟩
    have hb3:Below y2.heap.size y2 y3:=by rw [hy3];exact (Below.refl _ _).alloc (Nat.le_refl _) _
    have HK3:=Lib.hid (show Blk y3 bx 47 #[.int .i64 tr,.int .i64 id,.int .i64 pa,.string se,.string ho,.int .i64 sa,.int .i64 du,.string no] by rw [hy3,hbx];exact Blk.alloc_new y2 _ _)
    have HC3:=Lib.hid (HC2.out.trans (hb3.mono HC2.out.size))
    have HY3:=Lib.hid hy3
    have HBX:=Lib.hid (show wr.heap.size≤bx by rw [hbx];exact HC2.out.size)
    clear hb3 hy3
    go_wp2_with fail
    rw [← HY3.out,← hbx]
    clear hbx HY3
    obtain ⟨x0,hx0⟩:∃ x0,x0=y3.drew:=⟨_,rfl⟩
    have hb0:Below wr.heap.size wr x0:=by rw [hx0];exact HC3.out.drew
    have HPx0:=Lib.hid (show PendS w.heap.size x0 x0 (.slice sx i sc) xs from ⟨Chg.refl _ _,OwnRow.below HSP.out hb0⟩)
    have hqs:∀ b,(Value.slice sx i sc).ownBlock=some b→b≠q0∧b≠q1∧b≠bx∧w.heap.size≤b:=fun b hb => by
     obtain ⟨c1,e1⟩:=OwnRow.heap HSP.out hb
     have h1:=OwnRow.lt HSP.out b hb
     exact ⟨fun e => type_ne (e ▸ e1) HR0.out (by decide),fun e => type_ne (e ▸ e1) HKQ.out (by decide),by have:=HBX.out;omega,h1.1⟩
    have HQS:=Lib.hid hqs
    have HBZ:=Lib.hid (show w.heap.size≤x0.heap.size from Nat.le_trans HB.out.size hb0.size)
    have HBX0:=Lib.hid (show Below w.heap.size w x0 from HB.out.trans (hb0.mono HB.out.size))
    have HKX:=Lib.hid (show Blk x0 bx 47 #[.int .i64 tr,.int .i64 id,.int .i64 pa,.string se,.string ho,.int .i64 sa,.int .i64 du,.string no] by rw [hx0];exact HK3.out)
    have HQX:=Lib.hid (HKQ.out.below hb0)
    have HRX:=Lib.hid (HR0.out.below hb0)
    have HLT:=Lib.hid (show q0<x0.heap.size∧q1<x0.heap.size from ⟨by have:=HR0.out.lt;have:=hb0.size;omega,by have:=HKQ.out.lt;have:=hb0.size;omega⟩)
    have HTT:=Lib.hid (fun (V:World) (hV:Chg (fun b => (Value.slice sx i sc).ownBlock=some b) x0 V) => show V.cell? ⟨bx,0,none⟩=some (.int .i64 tr)∧V.cell? ⟨bx,1,none⟩=some (.int .i64 id)∧V.cell? ⟨bx,2,none⟩=some (.int .i64 pa)∧V.cell? ⟨bx,3,none⟩=some (.string se)∧V.cell? ⟨bx,4,none⟩=some (.string ho)∧V.cell? ⟨bx,5,none⟩=some (.int .i64 sa)∧V.cell? ⟨bx,6,none⟩=some (.int .i64 du)∧V.cell? ⟨bx,7,none⟩=some (.string no) from by
     have k:=HKX.out.chg hV (fun e => (HQS.out _ e).2.2.1 rfl)
     exact ⟨k.cell 0,k.cell 1,k.cell 2,k.cell 3,k.cell 4,k.cell 5,k.cell 6,k.cell 7⟩)
    have HSS:=Lib.hid (fun (V:World) (hV:Chg (fun b => (Value.slice sx i sc).ownBlock=some b) x0 V) => show V.cell? ⟨q1,2,none⟩=some (.slice sx i sc) from by
     have k:=HQX.out.chg hV (fun e => (HQS.out _ e).2.1 rfl)
     exact k.cell 2)
    have HFZ:=Lib.hid (fun (V:World) (hV:Chg (fun b => (Value.slice sx i sc).ownBlock=some b) x0 V) => show V.frozen? ⟨q1,2,none⟩=false from by
     have k:=HQX.out.chg hV (fun e => (HQS.out _ e).2.1 rfl)
     exact k.free 2)
    have HNEQ:=Lib.hid (show bx≠q1 from by have:=HKQ.out.lt;have:=HBX.out;omega)
    have HFN:=Lib.hid (fun (V:World) (u:Value) (hV:Chg (fun b => (Value.slice sx i sc).ownBlock=some b) x0 V) (hsp:OwnSp V w.heap.size u (xs++[⟨tr,id,pa,se,ho,sa,du,no⟩])) (hub:∀ k,u.ownBlock=some k→(Value.slice sx i sc).ownBlock=some k∨x0.heap.size≤k) (V2:World) (hV2:V2=V.setCell ⟨q1,2,none⟩ u) => show (Blk V2 q0 63 #[.int .i64 0,.int .i64 0,.slice none 0 0]∧Blk V2 q1 63 #[.int .i64 h,.int .i64 f,u]∧OwnSp V2 w.heap.size u (l.take (i+1))∧Below w.heap.size w V2)∧V2.cell? ⟨bx,0,none⟩=some (.int .i64 tr)∧V2.cell? ⟨bx,1,none⟩=some (.int .i64 id)∧V2.cell? ⟨bx,2,none⟩=some (.int .i64 pa)∧V2.cell? ⟨bx,3,none⟩=some (.string se)∧V2.cell? ⟨bx,4,none⟩=some (.string ho)∧V2.cell? ⟨bx,5,none⟩=some (.int .i64 sa)∧V2.cell? ⟨bx,6,none⟩=some (.int .i64 du)∧V2.cell? ⟨bx,7,none⟩=some (.string no) from by
     have hc2:Chg (fun b => b=q1) V V2:=by rw [hV2];exact (Chg.refl (fun b => b=q1) V).setCell (p:=⟨q1,_,none⟩) (fun _ => rfl) _
     have hkq:=HQX.out.chg hV (fun e => (HQS.out _ e).2.1 rfl)
     have hr:=(HRX.out.chg hV (fun e => (HQS.out _ e).1 rfl)).chg hc2 HQ.out.2.2
     have kb:=(HKX.out.chg hV (fun e => (HQS.out _ e).2.2.1 rfl)).chg hc2 HNEQ.out
     refine ⟨⟨hr,?_,?_,?_⟩,kb.cell 0,kb.cell 1,kb.cell 2,kb.cell 3,kb.cell 4,kb.cell 5,kb.cell 6,kb.cell 7⟩
     · rw [hV2];exact hkq.set 2 u
     · rw [HTK.out]
       refine OwnRow.chg hsp hc2 fun b hb e => ?_
       rcases hub b hb with h1 | h1
       · exact (HQS.out b h1).2.1 e
       · have:=HLT.out.2;omega
     · refine HBX0.out.trans ?_
       have hbl:Below w.heap.size x0 V:=hV.below HBZ.out fun b hb e => by have:=(HQS.out b e).2.2.2;omega
       rw [hV2]
       exact hbl.setCell (p:=⟨q1,2,none⟩) HQ.out.2.1 u)
    have hT:=HTT.out x0 (Chg.refl _ _)
    have hS:=HSS.out x0 (Chg.refl _ _)
    have hR63:R.size≤2000:=hRz
    clear hb0 hqs hRz
    refine wp_region_two (T:=fun W => W.cell? ⟨bx,0,none⟩=some (.int .i64 tr)∧W.cell? ⟨bx,1,none⟩=some (.int .i64 id)∧W.cell? ⟨bx,2,none⟩=some (.int .i64 pa)∧W.cell? ⟨bx,3,none⟩=some (.string se)∧W.cell? ⟨bx,4,none⟩=some (.string ho)∧W.cell? ⟨bx,5,none⟩=some (.int .i64 sa)∧W.cell? ⟨bx,6,none⟩=some (.int .i64 du)∧W.cell? ⟨bx,7,none⟩=some (.string no)) (S:=fun W => W.cell? ⟨q1,2,none⟩=some (.slice sx i sc)) (n:=9) (by kernel_rfl) ?_
    rw [← hx0]
    clear hx0
    refine tk 0 73 hT hS ?_
    refine tk 2 75 hT hS ?_
    try simp only [xq]
    refine tk 5 78 hT hS ?_
    refine tk 6 79 hT hS ?_
    try simp only [xq]
    refine tk 7 80 hT hS ?_
    try simp only [xq]
    refine two_take 1 (some 74) (v:=?_) rfl rfl (by kernel_rfl) (by kernel_rfl) (by kernel_rfl) (by kernel_rfl) (by decide) (by kernel_rfl) (fun _ _ _ h => h) (Or.inl ⟨by rfl,?hy1⟩) hT hS ?_
    case hy1 => (intro w' hS';(try unfold S8 at hS');(try unfold T8 at hS');go_simp;(try with_reducible rfl))
    try simp only [xq]
    refine two_one 3 rfl (by kernel_rfl) ?_
    intro K hK
    go_simp
    obtain ⟨z0,hz0⟩:∃ y,y=x0.alloc (.cells #[.int .i64 tr,.int .i64 id,.int .i64 pa,.string se,.string ho,.int .i64 sa,.int .i64 du,.string no] 47 (0,0)):=⟨_,rfl⟩
    rw [← hz0]
    have hbz0:Below x0.heap.size x0 z0:=by rw [hz0];exact (Below.refl _ _).alloc (Nat.le_refl _) _
    have HA:=Lib.hid (show Blk z0 x0.heap.size 47 #[.int .i64 tr,.int .i64 id,.int .i64 pa,.string se,.string ho,.int .i64 sa,.int .i64 du,.string no] by rw [hz0];exact Blk.alloc_new x0 _ _)
    have HP0:=Lib.hid (HPx0.out.below hbz0)
    have hT1:=HTT.out z0 HP0.out.chg
    have hS1:=HSS.out z0 HP0.out.chg
    refine hK.out _ _ hT1 (fun _ _ => hS1) ?_
    clear hz0 hbz0 hK K hT hS
    have hT:=hT1
    have hS:=hS1
    clear hT1 hS1
    try simp only [xq]
    refine two_one 4 rfl (by kernel_rfl) ?_
    intro K hK
    refine step_append_rows rfl (.tmp 74) (.tmp 76) (by rfl) spRow_len (by omega) under_spans Tryz.info_span rfl (by omega) (show OwnSp z0 w.heap.size (.slice sx i sc) xs from HP0.out.sp) (by rfl) (m:=[⟨tr,id,pa,se,ho,sa,du,no⟩]) (by rfl) (RdRow.one HA.out rfl) (fun a _ => spRow_one a) (by have:=HXS.out;simp;omega) (by have:=HXS.out;simp;omega) (Nat.le_trans HBZ.out HP0.out.chg.size) ?_
    intro u1 z1 hown hgr hb
    obtain ⟨u1x,u1c,hu⟩:=OwnRow.shape hown
    rw [List.length_append,HXS.out,List.length_singleton] at hu
    subst hu
    have HC1:=Lib.hid (HP0.out.chg.trans (chg_of_grown hgr))
    have HO1:=Lib.hid hown
    have HUB:=Lib.hid (show ∀ k,(Value.slice u1x (i+1) u1c).ownBlock=some k→(Value.slice sx i sc).ownBlock=some k∨x0.heap.size≤k from fun k hk => by
     rcases hb with hb | hb
     · exact .inl (hb ▸ hk)
     · rw [hb] at hk;injection hk with hk;exact .inr (by rw [← hk];exact HP0.out.chg.size))
    have hT1:=HTT.out z1 HC1.out
    have hS1:=HSS.out z1 HC1.out
    refine hK.out _ _ hT1 (fun _ _ => hS1) ?_
    clear hown hgr hb hK K hT hS
    have hT:=hT1
    have hS:=hS1
    clear hT1 hS1
    try simp only [xq]
    refine tk 8 81 hT hS ?_
    try simp only [xq]
    have hfz:=HFZ.out z1 HC1.out
    refine two_one 9 rfl (by kernel_rfl) ?_
    intro K hK
    go_simp
    obtain ⟨v1,hv1⟩:∃ v1,v1=z1.setCell ⟨q1,2,none⟩ (.slice u1x (i+1) u1c):=⟨_,rfl⟩
    rw [← hv1]
    obtain ⟨hfin,hT1⟩:=HFN.out z1 _ HC1.out HO1.out HUB.out v1 hv1
    have HFIN:=Lib.hid hfin
    refine hK.out _ _ hT1 (fun _ e => absurd rfl e) ?_
    clear hK K hT hS hfz hv1 hfin
    have hT:=hT1
    clear hT1
    try simp only [xq]
    refine two_one 10 rfl (by kernel_rfl) ?_
    intro K hK
    go_simp
    refine hK.out _ _ hT (fun e _ => by exact absurd e (by decide)) ?_
    clear hK K hT
    try simp only [xq]
    refine two_done (by kernel_rfl) ?_ _
    go_wp2_with fail
    go_roundw
    case rel => exact ⟨i+1,u1x,u1c,by go_num,by omega,by rw [HNX.out],HFIN.out⟩
    case measure => simp [intOf];omega
  · obtain rfl:i=n:=by omega
    have hrs:restB l i=⟨#[]⟩:=by
     unfold restB
     rw [HNL.out,List.drop_length]
     rfl
    have hall:l.take i=l:=List.take_of_length_le (by rw [← HNL.out];exact Nat.le_refl _)
    rw [hrs]
    rw [hall] at HSP
    have k0:=HKQ.out.cell 0
    have k1:=HKQ.out.cell 1
    have k2:=HKQ.out.cell 2
    have c0:=HR0.out.cell 0
    have c1:=HR0.out.cell 1
    have c2:=HR0.out.cell 2
    simp only [List.getElem?_toArray,List.getElem?_cons_zero,List.getElem?_cons_succ] at k0 k1 k2 c0 c1 c2
    have f0:=HR0.out.free 0
    have f1:=HR0.out.free 1
    have f2:=HR0.out.free 2
    have hk8:=((HR0.out.set 0 (.int .i64 h)).set 1 (.int .i64 f)).set 2 (.slice sx i sc)
    simp only [List.setIfInBounds_toArray,List.set_cons_zero,List.set_cons_succ] at hk8
    have hb8:=((HB.out.setCell (p:=⟨q0,0,none⟩) HQ.out.1 (.int .i64 h)).setCell (p:=⟨q0,1,none⟩) HQ.out.1 (.int .i64 f)).setCell (p:=⟨q0,2,none⟩) HQ.out.1 (.slice sx i sc)
    have hc8:Chg (fun b => b=q0) wr (((wr.setCell ⟨q0,0,none⟩ (.int .i64 h)).setCell ⟨q0,1,none⟩ (.int .i64 f)).setCell ⟨q0,2,none⟩ (.slice sx i sc)):=(((Chg.refl (fun b => b=q0) wr).setCell (p:=⟨q0,_,none⟩) (fun _ => rfl) _).setCell (p:=⟨q0,_,none⟩) (fun _ => rfl) _).setCell (p:=⟨q0,_,none⟩) (fun _ => rfl) _
    have hs8:=OwnRow.chg HSP.out hc8 fun b hb e => by
     obtain ⟨c1,e1⟩:=OwnRow.heap HSP.out hb
     exact type_ne (e ▸ e1) HR0.out (by decide)
    have HK8:=Lib.hid hk8
    have HB8:=Lib.hid hb8
    have HS8:=Lib.hid hs8
    clear hk8 hb8 hc8 hs8 hrs hall
    go_wp2_with fail
    have r0:=HK8.out.cell 0
    have r1:=HK8.out.cell 1
    have r2:=HK8.out.cell 2
    simp only [List.getElem?_toArray,List.getElem?_cons_zero,List.getElem?_cons_succ] at r0 r1 r2
    refine bodyPost_ret (v:=.tuple #[.agg #[.int .i64 h,.int .i64 f,.slice sx i sc],.int .i64 0]) (by simp [results,Tryz.results28,go_sem,r0,r1,r2]) rfl ?_
    exact ⟨_,rfl,HS8.out,HB8.out⟩
end Go.Proofs.YtdacanghbepjpaaGreatDoor

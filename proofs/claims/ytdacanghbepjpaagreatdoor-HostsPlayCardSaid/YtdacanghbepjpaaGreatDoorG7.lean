/- A host's daemon, plainly: what it sends, which answers count, what becomes of its cursor. No program in sight. -/
import Derived.Test.YtdacanghbepjpaaGreatDoorM6
import Derived.Test.YtdacanghbepjpaaGreatDoorM1
import Derived.Test.YtdacanghbepjpaaGreatDoorG2
import Derived.Test.YtdacanghbepjpaaGreatDoorHlShelf
import Derived.Test.YtdacanghbepjpaaGreatDoorM3
import Derived.Test.YtdacanghbepjpaaGreatDoorSink2
import Derived.Test.YtdacanghbepjpaaGreatDoorG4
import Derived.Test.YtdacanghbepjpaaGreatDoorG5
set_option linter.unusedSimpArgs false
set_option linter.unusedVariables false
set_option maxRecDepth 100000
namespace Go.Proofs.YtdacanghbepjpaaGreatDoor
open Dsk
structure Dm where
 host:Int
 next:Int
 gap:Int
 out:ByteArray
 many:Int
 sent:Int
def noB:ByteArray:=⟨#[]⟩
def batchB (h f:Int) (l:List Sp.Span):ByteArray:=⟨(Po.batchS h f l).toArray⟩
theorem batchB_ne (h f:Int) (l:List Sp.Span):batchB h f l≠noB:=by
 unfold batchB noB Po.batchS
 intro e
 injection e with e
 have:=congrArg Array.size e
 simp at this
def firstA (d:Dk) (h:Hl):Nat:=if h.runs d then firstOf h.l else 0
def sureA (d:Dk) (h:Hl):Nat:=if h.runs d then sureL d h.l 0 else 0
def keepC (d:Dk) (x:Dm) (a b:Int):Int×Dm×Dk:=let y:=saveD d a b;if y.1≠0 then (y.1,x,y.2) else (0,{ x with next:=a,gap:=b },y.2)
def skipC (d:Dk) (h:Hl) (x:Dm):Int×Dm×Dk:=if (firstA d h:Int)≤x.next then (0,x,d) else keepC d x (firstA d h) (x.gap+firstA d h-x.next)
def batC (d:Dk) (h:Hl) (x:Dm):Int×Dm×Dk :=
 if (sureA d h:Int)≤x.next then (0,x,d)
 else if (readP d h x.next 8).2.2≠0∨(readP d h x.next 8).1=[] then ((readP d h x.next 8).2.2,x,d)
 else (0,{ x with out:=batchB x.host x.next (readP d h x.next 8).1,many:=(readP d h x.next 8).2.1-x.next },d)
def gatherC (d:Dk) (h:Hl) (x:Dm):Int×Dm×Dk:=let y:=skipC d h x;if y.1≠0 then y else batC y.2.2 h y.2.1
open Classical in
noncomputable def stepC (now:Int) (d:Dk) (h:Hl) (x:Dm):(ByteArray×Int)×Dm×Dk :=
 if d.off=true then ((noB,51),x,d)
 else if x.out≠noB then (if now-x.sent<3 then ((noB,0),x,d) else ((x.out,0),{ x with sent:=now },d))
 else let y:=gatherC d h x;if y.1≠0 then ((noB,y.1),y.2.1,y.2.2) else ((y.2.1.out,0),{ y.2.1 with sent:=now },y.2.2)
open Classical in
noncomputable def takeC (s:Str) (d:Dk) (x:Dm):(Bool×Int)×Dm×Dk :=
 if d.off=true then ((false,51),x,d)
 else match Po.decAck s with
  | none => ((false,30),x,d)
  | some (ho,f,n) =>
   if x.out=noB∨ho≠x.host∨f≠x.next∨n≠x.next+x.many then ((false,0),x,d)
   else let y:=keepC d x n x.gap;if y.1≠0 then ((false,y.1),y.2.1,y.2.2) else ((true,0),{ y.2.1 with out:=noB,many:=0 },y.2.2)
def pageL (l:List Sg) (s n:Nat):List Sp.Span:=(((recs l).take (sureOf l s-firstOf l)).drop (n-firstOf l)).take 8
def OutOk (x:Dm) (su:Nat):Prop:=(x.out=noB∧x.many=0)∨∃ ss:List Sp.Span,x.out=batchB x.host x.next ss∧x.many=ss.length∧1≤ss.length∧ss.length≤8∧(∀ y∈ss,Sp.May y)∧x.next+ss.length≤su
structure NodeP (d:Dk) (h:Hl) (s:Nat) (x:Dm):Prop where
 run:RunC d h s x.next x.gap
 gap:0≤x.gap∧x.gap≤x.next
 sure:x.next≤(sureOf h.l s:Nat)
 host:Po.HostOk x.host
 out:OutOk x (sureOf h.l s)
def NodeF (d:Dk) (h:Hl) (s:Nat) (x:Dm) (d':Dk):Prop:=∃ l' t',FlatC d' l' t' x.next x.gap∧Stp h.l s l' (lastT l'++t').length
section
variable {d d':Dk} {h h':Hl} {s s':Nat} {x x':Dm} {l l':List Sg} {t':Str} {n:Nat}
theorem pageL_len (hc:Chained l) (h1:firstOf l≤n) (h2:n≤sureOf l s):(pageL l s n).length=min 8 (sureOf l s-n):=by
 unfold pageL
 have h3:=nextOf_recs hc
 have h4:=sureOf_le l s
 rw [List.length_take,List.length_drop,List.length_take]
 omega
theorem pageL_may (hm:∀ a∈l,∀ y∈a.spans,Sp.May y) (s n:Nat):∀ y∈pageL l s n,Sp.May y:=fun y hy => by
 have h1:y∈recs l:=List.mem_of_mem_take (List.mem_of_mem_drop (List.mem_of_mem_take hy))
 obtain ⟨a,ha,hya⟩:=List.mem_flatMap.1 h1
 exact hm a ha y hya
theorem OutOk.more {su su':Nat} (o:OutOk x su) (h:su≤su'):OutOk x su':=by
 rcases o with o | ⟨ss,e1,e2,e3,e4,e5,e6⟩
 · exact .inl o
 exact .inr ⟨ss,e1,e2,e3,e4,e5,by omega⟩
theorem NodeP.off (p:NodeP d h s x):d.off=false:=p.run.off
theorem NodeP.moved (p:NodeP d h s x) (r:RunC d' h' s' x.next x.gap) (st:Stp h.l s h'.l s'):NodeP d' h' s' x :=
 ⟨r,p.gap,by have:=p.sure;have:=st.kr.sure;omega,p.host,p.out.more st.kr.sure⟩
theorem NodeP.act (p:NodeP d h s x) (a:ActC d h s x.next x.gap d' h'):(∃ s',NodeP d' h' s' x∧Stp h.l s h'.l s')∨NodeF d h s x d':=by
 rcases a with ⟨s',r,st⟩ | ⟨l',t',f,st⟩
 · exact .inl ⟨s',p.moved r st,st⟩
 exact .inr ⟨l',t',f,st⟩
theorem NodeP.keep (p:NodeP d h s x) {a b:Int} (hr1:d.files.length<1024) (hr2:total d.files+19≤d.room) (hb:0≤b∧b≤a) (ha:a≤(sureOf h.l s:Nat)) (hs:sureOf h.l s≤2147483647) :
  ((keepC d x a b).1=0∧(keepC d x a b).2.1={ x with next:=a,gap:=b }∧RunC (keepC d x a b).2.2 h s a b)∨((keepC d x a b).1=51∧(keepC d x a b).2.1=x∧NodeF d h s x (keepC d x a b).2.2):=by
 have hm:Cur.May a b:=⟨by omega,by omega,by omega,by omega⟩
 unfold keepC
 rcases p.run.save hm hr1 hr2 with ⟨e,r⟩ | ⟨e,l',t',f,st⟩
 · simp only [e,ne_eq,not_true_eq_false,if_false]
   exact .inl ⟨trivial,trivial,r⟩
 simp only [e]
 rw [if_pos (by decide)]
 exact .inr ⟨rfl,rfl,l',t',f,st⟩
theorem NodeP.first (p:NodeP d h s x):firstA d h=firstOf h.l∧sureA d h=sureOf h.l s:=by
 unfold firstA sureA
 rw [if_pos p.run.runs,if_pos p.run.runs,p.run.sureL]
 exact ⟨rfl,rfl⟩
structure Stepped (d:Dk) (h:Hl) (s:Nat) (x x':Dm) (d':Dk):Prop where
 node:NodeP d' h s x'
 first:x'.out=noB∨x.out≠noB∨firstOf h.l≤x'.next.toNat
 next:x'.next=x.next∨(x.next<x'.next∧x'.next=(firstOf h.l:Nat))
 gap:x'.gap-x.gap=x'.next-x.next
theorem NodeP.skip (p:NodeP d h s x) (ho:x.out=noB) (hr1:d.files.length<1024) (hr2:total d.files+19≤d.room) (hs:sureOf h.l s≤2147483647) :
  ((skipC d h x).1=0∧NodeP (skipC d h x).2.2 h s (skipC d h x).2.1∧(firstOf h.l:Int)≤(skipC d h x).2.1.next∧(skipC d h x).2.1.out=noB∧((skipC d h x).2.1.next=x.next∨(x.next<(skipC d h x).2.1.next∧(skipC d h x).2.1.next=(firstOf h.l:Nat)))∧(skipC d h x).2.1.gap-x.gap=(skipC d h x).2.1.next-x.next) ∨
  ((skipC d h x).1=51∧(skipC d h x).2.1=x∧NodeF d h s x (skipC d h x).2.2):=by
 obtain ⟨e1,_⟩:=p.first
 have hf:=first_le_sure p.run.chain s
 obtain ⟨g1,g2⟩:=p.gap
 unfold skipC
 rw [e1]
 by_cases hle:(firstOf h.l:Int)≤x.next
 · rw [if_pos hle]
   exact .inl ⟨rfl,p,hle,ho,.inl rfl,by simp⟩
 rw [if_neg hle]
 rcases p.keep (a:=(firstOf h.l:Nat)) (b:=x.gap+(firstOf h.l:Nat)-x.next) hr1 hr2 (by omega) (by omega) hs with ⟨k1,k2,k3⟩ | ⟨k1,k2,k3⟩
 · have hm:x.many=0:=by
    rcases p.out with ⟨_,e⟩ | ⟨ss,e,_⟩
    · exact e
    rw [ho] at e;exact absurd e.symm (batchB_ne _ _ _)
   refine .inl ⟨k1,?_,?_,?_,?_,?_⟩
   · rw [k2]
     exact ⟨k3,⟨by show 0≤x.gap+(firstOf h.l:Nat)-x.next;omega,by show x.gap+(firstOf h.l:Nat)-x.next≤(firstOf h.l:Nat);omega⟩,by show ((firstOf h.l:Nat):Int)≤_;omega,p.host,.inl ⟨ho,hm⟩⟩
   · rw [k2];exact Int.le_refl _
   · rw [k2];exact ho
   · rw [k2];exact .inr ⟨by show x.next<((firstOf h.l:Nat):Int);omega,rfl⟩
   rw [k2];show x.gap+(firstOf h.l:Nat)-x.next-x.gap=(firstOf h.l:Nat)-x.next;omega
 exact .inr ⟨k1,k2,k3⟩
theorem NodeP.bat (p:NodeP d h s x) (ho:x.out=noB) (hf:(firstOf h.l:Int)≤x.next) :
  batC d h x=(if (sureOf h.l s:Int)≤x.next then (0,x,d) else (0,{ x with out:=batchB x.host x.next (pageL h.l s x.next.toNat),many:=(pageL h.l s x.next.toNat).length },d))∧NodeP d h s (batC d h x).2.1:=by
 obtain ⟨_,e2⟩:=p.first
 obtain ⟨g1,g2⟩:=p.gap
 obtain ⟨n,hn⟩:∃ n:Nat,x.next=n:=⟨x.next.toNat,by omega⟩
 have hsu:=p.sure
 have e:batC d h x=(if (sureOf h.l s:Int)≤x.next then (0,x,d) else (0,{ x with out:=batchB x.host x.next (pageL h.l s x.next.toNat),many:=(pageL h.l s x.next.toNat).length },d)):=by
  unfold batC
  rw [e2]
  by_cases hle:(sureOf h.l s:Int)≤x.next
  · rw [if_pos hle,if_pos hle]
  rw [if_neg hle,if_neg hle]
  have hp:=p.run.read (n:=n) (m:=8) (by omega) (by omega)
  have hl:=pageL_len (n:=n) p.run.chain (s:=s) (by omega) (by omega)
  rw [hn]
  have h8:((8:Nat):Int)=8:=rfl
  rw [h8] at hp
  have hpg:(((recs h.l).take (sureOf h.l s-firstOf h.l)).drop (n-firstOf h.l)).take 8=pageL h.l s n:=rfl
  rw [hpg] at hp
  rw [hp]
  simp only
  rw [if_neg]
  · simp only [Int.toNat_natCast,Prod.mk.injEq,true_and,and_true]
    congr 1
    omega
  intro e
  rcases e with e | e
  · exact e rfl
  rw [e] at hl
  simp at hl
  omega
 refine ⟨e,?_⟩
 rw [e]
 by_cases hle:(sureOf h.l s:Int)≤x.next
 · rw [if_pos hle]
   exact p
 rw [if_neg hle]
 have hl:=pageL_len (n:=n) p.run.chain (s:=s) (by omega) (by omega)
 have hmay:=pageL_may (l:=h.l) (by obtain ⟨dr,f,_⟩:=p.run.file;exact f.sgs.may) s n
 rw [hn]
 simp only [Int.toNat_natCast]
 refine ⟨?_,?_,?_,p.host,.inr ⟨pageL h.l s n,rfl,rfl,by omega,by omega,hmay,by show (n:Int)+_≤_;omega⟩⟩
 · have:=p.run;rw [hn] at this;exact this
 · show 0≤x.gap∧x.gap≤(n:Int);omega
 show ((n:Nat):Int)≤_;omega
theorem NodeP.sent (p:NodeP d h s x) (now:Int):NodeP d h s { x with sent:=now } :=
 ⟨p.run,p.gap,p.sure,p.host,by
  rcases p.out with o | ⟨ss,e1,e2,r⟩
  · exact .inl o
  exact .inr ⟨ss,e1,e2,r⟩⟩
theorem NodeP.step (p:NodeP d h s x) (now:Int) (hr1:d.files.length<1024) (hr2:total d.files+19≤d.room) (hs:sureOf h.l s≤2147483647) :
  ((stepC now d h x).1.2=0∧NodeP (stepC now d h x).2.2 h s (stepC now d h x).2.1∧((stepC now d h x).1.1=noB∨(stepC now d h x).1.1=(stepC now d h x).2.1.out)∧x.next≤(stepC now d h x).2.1.next∧(stepC now d h x).2.1.gap-x.gap=(stepC now d h x).2.1.next-x.next) ∨
  ((stepC now d h x).1=(noB,51)∧(stepC now d h x).2.1=x∧NodeF d h s x (stepC now d h x).2.2):=by
 unfold stepC
 rw [if_neg (by rw [p.off];decide)]
 by_cases ho:x.out=noB
 · rw [if_neg (fun e => e ho)]
   unfold gatherC
   rcases p.skip ho hr1 hr2 hs with ⟨k1,k2,k3,k4,k5,k6⟩ | ⟨k1,k2,k3⟩
   · simp only [k1,ne_eq,not_true_eq_false,if_false]
     obtain ⟨y,hy⟩:∃ y,y=skipC d h x:=⟨_,rfl⟩
     rw [← hy] at k1 k2 k3 k4 k5 k6 ⊢
     obtain ⟨r,x1,d1⟩:=y
     simp only at k1 k2 k3 k4 k5 k6 ⊢
     obtain ⟨b1,b2⟩:=k2.bat k4 k3
     have hb:(batC d1 h x1).1=0∧(batC d1 h x1).2.2=d1∧(batC d1 h x1).2.1.next=x1.next∧(batC d1 h x1).2.1.gap=x1.gap:=by
      rw [b1]
      split
      · exact ⟨rfl,rfl,rfl,rfl⟩
      exact ⟨rfl,rfl,rfl,rfl⟩
     obtain ⟨c1,c2,c3,c4⟩:=hb
     rw [c1]
     simp only [not_true_eq_false,if_false]
     refine .inl ⟨trivial,?_,.inr (by first | rfl | trivial),?_,?_⟩
     · rw [c2];exact b2.sent now
     · show x.next≤(batC d1 h x1).2.1.next
       rw [c3];omega
     show (batC d1 h x1).2.1.gap-x.gap=(batC d1 h x1).2.1.next-x.next
     rw [c3,c4];exact k6
   simp only [k1]
   have h51:(51:Int)≠0:=by decide
   simp only [ne_eq,h51,not_false_eq_true,if_true]
   rw [k1,if_pos h51]
   exact .inr ⟨rfl,k2,k3⟩
 rw [if_pos ho]
 by_cases ht:now-x.sent<3
 · rw [if_pos ht]
   exact .inl ⟨rfl,p,.inl rfl,Int.le_refl _,by simp⟩
 rw [if_neg ht]
 exact .inl ⟨rfl,p.sent now,.inr rfl,Int.le_refl _,by simp⟩
theorem NodeP.take (p:NodeP d h s x) (b:Po.Str) (hr1:d.files.length<1024) (hr2:total d.files+19≤d.room) (hs:sureOf h.l s≤2147483647) :
  ((takeC b d x).1.1=false∧(takeC b d x).2=(x,d)∧((Po.decAck b=none∧(takeC b d x).1.2=30)∨((takeC b d x).1.2=0∧Po.decAck b≠none∧(x.out=noB∨Po.decAck b≠some (x.host,x.next,x.next+x.many))))) ∨
  ((takeC b d x).1=(true,0)∧x.out≠noB∧Po.decAck b=some (x.host,x.next,x.next+x.many)∧(takeC b d x).2.1={ x with next:=x.next+x.many,out:=noB,many:=0 }∧NodeP (takeC b d x).2.2 h s { x with next:=x.next+x.many,out:=noB,many:=0 }) ∨
  ((takeC b d x).1=(false,51)∧x.out≠noB∧Po.decAck b=some (x.host,x.next,x.next+x.many)∧(takeC b d x).2.1=x∧NodeF d h s x (takeC b d x).2.2):=by
 unfold takeC
 rw [if_neg (by rw [p.off];decide)]
 cases hd:Po.decAck b with
 | none => exact .inl ⟨rfl,rfl,.inl ⟨rfl,rfl⟩⟩
 | some q =>
  obtain ⟨ho,f,n⟩:=q
  simp only
  by_cases hg:x.out=noB∨ho≠x.host∨f≠x.next∨n≠x.next+x.many
  · rw [if_pos hg]
    refine .inl ⟨rfl,rfl,.inr ⟨rfl,by simp,?_⟩⟩
    rcases hg with hg | hg
    · exact .inl hg
    refine .inr fun e => ?_
    simp only [Option.some.injEq,Prod.mk.injEq] at e
    obtain ⟨e1,e2,e3⟩:=e
    rcases hg with hg | hg | hg
    · exact hg e1
    · exact hg e2
    exact hg e3
  rw [if_neg hg]
  have h1:x.out≠noB:=fun e => hg (.inl e)
  have h2:ho=x.host:=Classical.byContradiction fun e => hg (.inr (.inl e))
  have h3:f=x.next:=Classical.byContradiction fun e => hg (.inr (.inr (.inl e)))
  have h4:n=x.next+x.many:=Classical.byContradiction fun e => hg (.inr (.inr (.inr e)))
  subst h2 h3 h4
  obtain ⟨g1,g2⟩:=p.gap
  have hsu:x.next+x.many≤(sureOf h.l s:Nat)∧1≤x.many:=by
   rcases p.out with ⟨o,_⟩ | ⟨ss,_,e2,e3,_,_,e6⟩
   · exact absurd o h1
   omega
  rcases p.keep (a:=x.next+x.many) (b:=x.gap) hr1 hr2 (by omega) hsu.1 hs with ⟨k1,k2,k3⟩ | ⟨k1,k2,k3⟩
  · simp only [k1,ne_eq,not_true_eq_false,if_false]
    refine .inr (.inl ⟨trivial,h1,trivial,by rw [k2],⟨k3,⟨g1,by show x.gap≤x.next+x.many;omega⟩,by show x.next+x.many≤_;exact hsu.1,p.host,.inl ⟨rfl,rfl⟩⟩⟩)
  simp only [k1]
  rw [if_pos (by decide)]
  exact .inr (.inr ⟨by first | rfl | trivial,h1,by first | rfl | trivial,k2,k3⟩)
theorem NodeF.again (f:NodeF d h s x d') (p:NodeP d h s x) (hr1:d'.files.length<1024) (hr2:2*total d'.files≤d'.room) (hn:nextOf h.l≤900000000) :
  d'.off=true∧d'.start.1=0∧d'.start.2.off=false∧∃ l' t' dr,LSt d'.start.2 l' t' (lastT l'++t').length dr∧nextOf l'≤nextOf h.l+65536∧∃ d3 s3,openP d'.start.2 l' t'=(0,d3)∧NodeP d3 ⟨d'.start.2.starts,false,l'⟩ s3 ⟨x.host,x.next,x.gap,noB,0,0⟩∧Stp h.l s l' s3∧loadD d3=((x.next,x.gap),0)∧d3.fail=none:=by
 obtain ⟨l',t',fl,st⟩:=f
 obtain ⟨s1,s2,s3,dr,s4,c⟩:=fl.start
 have hroom:d'.start.2.room=d'.room:=by unfold Dk.start;split <;> rfl
 have hfiles:d'.start.2.files=d'.files:=by unfold Dk.start;split <;> rfl
 have hnx:nextOf l'≤nextOf h.l+65536:=by
  have h1:=nextOf_recs s4.sgs.chain
  have h2:=s4.recs_leC.1
  have h3:=st.first
  have h4:=sureOf_le h.l s
  omega
 obtain ⟨d3,o1,o2,o3,o4,o5⟩:=open_upC s4 c s2 s3 (by omega) (by rw [hfiles];exact hr1) (by rw [hroom,hfiles];exact hr2)
 have hst:Stp h.l s l' (lastT l').length:=st.trans o3 rfl
 refine ⟨fl.off,s1,s2,l',t',dr,s4,hnx,d3,_,o1,⟨o2,p.gap,?_,p.host,.inl ⟨rfl,rfl⟩⟩,hst,o2.load,o4⟩
 have:=p.sure
 have:=hst.kr.sure
 show x.next≤((sureOf l' (lastT l').length:Nat):Int)
 omega
end
end Go.Proofs.YtdacanghbepjpaaGreatDoor
namespace Go.Proofs.YtdacanghbepjpaaGreatDoor
open Go.RowKit
theorem record_any (n:Int) (w:World):Calls Tryz.prog 87 #[.int .i64 n] w fun e w' => e=.returned (.bool (decide (Po.RecOk n)))∧w=w':=by
 by_cases h:Po.RecOk n
 · have h1:n≥0:=h.1
   have h2:=h.2
   rw [decide_eq_true h]
   clear h
   go_enter Tryz.func87,Tryz.ntmps87
   go_wp2_with fail
   go_ret
   exact ⟨rfl,rfl⟩
 rw [decide_eq_false h]
 by_cases h1:n≥0
 · have h2:¬ n≤2147483647:=fun e => h ⟨h1,e⟩
   clear h
   go_enter Tryz.func87,Tryz.ntmps87
   go_wp2_with fail
   go_ret
   exact ⟨rfl,rfl⟩
 clear h
 go_enter Tryz.func87,Tryz.ntmps87
 go_wp2_with fail
 go_ret
 exact ⟨rfl,rfl⟩
theorem host_any (n:Int) (w:World):Calls Tryz.prog 86 #[.int .i64 n] w fun e w' => e=.returned (.bool (decide (Po.HostOk n)))∧w=w':=by
 by_cases h:Po.HostOk n
 · have h1:n≥0:=h.1
   have h2:=h.2
   rw [decide_eq_true h]
   clear h
   go_enter Tryz.func86,Tryz.ntmps86
   go_wp2_with fail
   go_ret
   exact ⟨rfl,rfl⟩
 rw [decide_eq_false h]
 by_cases h1:n≥0
 · have h2:¬ n<4:=fun e => h ⟨h1,e⟩
   clear h
   go_enter Tryz.func86,Tryz.ntmps86
   go_wp2_with fail
   go_ret
   exact ⟨rfl,rfl⟩
 clear h
 go_enter Tryz.func86,Tryz.ntmps86
 go_wp2_with fail
 go_ret
 exact ⟨rfl,rfl⟩
def putsB (L:ByteArray) (a b c:Int):Nat→ByteArray
 | 0 => L
 | 1 => L++pnB a
 | 2 => L++pnB a++pnB b
 | _ => L++pnB a++pnB b++pnB c
theorem putsB_size (L:ByteArray) (hL:L.size≤10) {a b c:Int} (ha:a<9223372036854775808) (hb:b<9223372036854775808) (hc:c<9223372036854775808) (i:Nat):(putsB L a b c i).size≤37:=by
 have h1:=pnB_size ha
 have h2:=pnB_size hb
 have h3:=pnB_size hc
 match i with
 | 0 => show L.size≤37;omega
 | 1 => show (L++pnB a).size≤37;rw [ByteArray.size_append];omega
 | 2 => show (L++pnB a++pnB b).size≤37;rw [ByteArray.size_append,ByteArray.size_append];omega
 | _+3 => show (L++pnB a++pnB b++pnB c).size≤37;rw [ByteArray.size_append,ByteArray.size_append,ByteArray.size_append];omega
theorem putsB_list (c:UInt8) (a b d:Int):putsB ⟨#[c]⟩ a b d 3=⟨(c::(Ed.pn a++(Ed.pn b++Ed.pn d))).toArray⟩:=by
 unfold putsB pnB
 apply bytes_ext
 simp
set_option maxHeartbeats 2000000 in
theorem puts_any (L:ByteArray) (hL:L.size≤10) (a b c:Int) (ha:0≤a∧a<9223372036854775808) (hb:0≤b∧b<9223372036854775808) (hc:0≤c∧c<9223372036854775808) (w:World) (g:Nat) (hg:g<w.heap.size)
  (k0:w.cell? ⟨g,0,none⟩=some (.int .i64 a)) (k1:w.cell? ⟨g,1,none⟩=some (.int .i64 b)) (k2:w.cell? ⟨g,2,none⟩=some (.int .i64 c)) :
  Calls Tryz.prog 96 #[.string L,.slice (some ⟨g,0,none⟩) 3 3] w fun e w' => e=.returned (.string (putsB L a b c 3))∧Below w.heap.size w w':=by
 have HP:=Zh (fun (n:Int) (W:World) (h:0≤n∧n<9223372036854775808) => putP_any n W h.1 h.2)
 have HA:=Zh ha
 have HB:=Zh hb
 have HC:=Zh hc
 have HSZ:=Zh (putsB_size L hL ha.2 hb.2 hc.2)
 have HPA:=Zh (pnB_size ha.2)
 have HPB:=Zh (pnB_size hb.2)
 have HPC:=Zh (pnB_size hc.2)
 have HK:=Zh (fun (W:World) (hW:Below w.heap.size w W) => show W.cell? ⟨g,0,none⟩=some (.int .i64 a)∧W.cell? ⟨g,1,none⟩=some (.int .i64 b)∧W.cell? ⟨g,2,none⟩=some (.int .i64 c) from
  ⟨(hW.cell (p:=⟨g,0,none⟩) hg).trans k0,(hW.cell (p:=⟨g,1,none⟩) hg).trans k1,(hW.cell (p:=⟨g,2,none⟩) hg).trans k2⟩)
 clear ha hb hc k0 k1 k2 hL
 go_enter Tryz.func96,Tryz.ntmps96
 go_wp2_with fail
 go_loopw [0,9] (fun v0 v9 wr => ∃ i:Nat,v9=.int .i64 i∧i≤3∧v0=.string (putsB L a b c i)∧Below w.heap.size w wr) (fun _ v9 _ => 3-(intOf v9).toNat)
 case atStart => exact ⟨0,rfl,by omega,rfl,Below.refl _ _⟩
 case round =>
 obtain ⟨i,rfl,hi,rfl,hbw⟩:=hrel
 have HBW:=Zh hbw
 obtain ⟨k0,k1,k2⟩:=HK.out wr hbw
 clear hbw
 have hi4:i=0∨i=1∨i=2∨i=3:=by omega
 have hz:=HSZ.out i
 rcases hi4 with rfl | rfl | rfl | rfl
 · clear k1 k2
   obtain ⟨S,hS⟩:∃ S,S=putsB L a b c 0:=⟨_,rfl⟩
   rw [← hS] at hz ⊢
   have HE:=Zh (show putsB L a b c 1=S++pnB a by rw [hS];rfl)
   have hzz:S.size+(pnB a).size≤100:=by have:=HPA.out;omega
   clear hS
   go_wp2_with fail
   refine (HP.out a wr HA.out).mono ?_
   rintro e w1 ⟨rfl,hb1⟩
   have HB1:=Zh (HBW.out.trans (hb1.mono HBW.out.size))
   clear hb1 k0
   go_wp2_with fail
   go_roundw
   case rel => exact ⟨1,rfl,by omega,by rw [HE.out],HB1.out⟩
   case measure => simp [intOf]
 · clear k0 k2
   obtain ⟨S,hS⟩:∃ S,S=putsB L a b c 1:=⟨_,rfl⟩
   rw [← hS] at hz ⊢
   have HE:=Zh (show putsB L a b c 2=S++pnB b by rw [hS];rfl)
   have hzz:S.size+(pnB b).size≤100:=by have:=HPB.out;omega
   clear hS
   go_wp2_with fail
   refine (HP.out b wr HB.out).mono ?_
   rintro e w1 ⟨rfl,hb1⟩
   have HB1:=Zh (HBW.out.trans (hb1.mono HBW.out.size))
   clear hb1 k1
   go_wp2_with fail
   go_roundw
   case rel => exact ⟨2,rfl,by omega,by rw [HE.out],HB1.out⟩
   case measure => simp [intOf]
 · clear k0 k1
   obtain ⟨S,hS⟩:∃ S,S=putsB L a b c 2:=⟨_,rfl⟩
   rw [← hS] at hz ⊢
   have HE:=Zh (show putsB L a b c 3=S++pnB c by rw [hS];rfl)
   have hzz:S.size+(pnB c).size≤100:=by have:=HPC.out;omega
   clear hS
   go_wp2_with fail
   refine (HP.out c wr HC.out).mono ?_
   rintro e w1 ⟨rfl,hb1⟩
   have HB1:=Zh (HBW.out.trans (hb1.mono HBW.out.size))
   clear hb1 k2
   go_wp2_with fail
   go_roundw
   case rel => exact ⟨3,rfl,by omega,by rw [HE.out],HB1.out⟩
   case measure => simp [intOf]
 clear k0 k1 k2
 go_wp2_with fail
 go_ret
 exact ⟨rfl,HBW.out⟩
end Go.Proofs.YtdacanghbepjpaaGreatDoor
namespace Go.Proofs.YtdacanghbepjpaaGreatDoor
open Go.RowKit
theorem nums_snoc:∀ (i:Nat) (s:Po.Str),Po.nums (i+1) s=match Po.nums i s with
  | none => none
  | some (l,r) => match Var.get r 0 with
   | none => none
   | some (n,p) => some (l++[n],r.drop p)
 | 0,s => by
  simp only [Po.nums]
  cases Var.get s 0 with
  | none => rfl
  | some x => rfl
 | i+1,s => by
  rw [Po.nums]
  rw [show Po.nums (i+1) s=(match Var.get s 0 with
   | none => none
   | some (n,p) => match Po.nums i (s.drop p) with
    | none => none
    | some (l,r) => some (n::l,r)) from rfl]
  cases Var.get s 0 with
  | none => rfl
  | some x =>
   obtain ⟨n,p⟩:=x
   simp only
   rw [nums_snoc i (s.drop p)]
   cases Po.nums i (s.drop p) with
   | none => rfl
   | some y =>
    obtain ⟨l,r⟩:=y
    simp only
    cases Var.get r 0 with
    | none => rfl
    | some z => rfl
theorem nums_none:∀ (i k:Nat) (s:Po.Str),Po.nums i s=none→Po.nums (i+k) s=none
 | i,0,s,h => h
 | i,k+1,s,h => by
  rw [← Nat.add_assoc,nums_snoc,nums_none i k s h]
def numsC (c:UInt8) (s:Po.Str):Option (List Nat×Po.Str):=if s[0]?=some c then Po.nums 3 (s.drop 1) else none
theorem prefix_one (s:List UInt8) (c:UInt8):Lib.hasPrefix s [c]=decide (s[0]?=some c):=by
 cases s with
 | nil => simp [Lib.hasPrefix]
 | cons x r =>
  by_cases h:x=c
  · subst h;simp [Lib.hasPrefix,List.isPrefixOf]
  have h2:(c == x)=false:=by rw [beq_eq_false_iff_ne];exact fun e => h e.symm
  simp [Lib.hasPrefix,List.isPrefixOf,h,h2]
set_option maxHeartbeats 4000000 in
theorem gets_any (s:ByteArray) (hs:s.size≤maxLen) (c:UInt8) (g:Nat) (pa:Nat→Addr) (w:World) (I:Nat→List Nat→World→Prop) (h0:I 0 [] w)
  (hset:∀ i ns (n:Nat) W,i<3→n<9223372036854775808→I i ns W→I (i+1) (ns++[n]) (W.setCell (pa i) (.int .i64 n)))
  (hdr:∀ i ns W,I i ns W→I i ns W.drew)
  (hcell:∀ i ns W,I i ns W→∀ k,k<3→W.cell? ⟨g,k,none⟩=some (.pointer (some (pa k)))∧(∃ u,W.cell? (pa k)=some u)∧W.frozen? (pa k)=false) :
  Calls Tryz.prog 85 #[.string s,.string ⟨#[c]⟩,.slice (some ⟨g,0,none⟩) 3 3] w fun e w' =>
   (∃ ns r,numsC c s.data.toList=some (ns,r)∧e=.returned (.tuple #[.string ⟨r.toArray⟩,.bool true])∧I 3 ns w')∨(numsC c s.data.toList=none∧e=.returned (.tuple #[.string ⟨#[]⟩,.bool false])∧∃ i ns,I i ns w'):=by
 have HCP:=Zh (Tryz.strings_CutPrefix s ⟨#[c]⟩ w)
 have hpre:=prefix_one s.data.toList c
 have e1:(⟨#[c]⟩:ByteArray).data.toList=[c]:=rfl
 rw [e1] at HCP
 have HG:=Zh (fun (R:ByteArray) (W:World) (h:R.size≤maxLen) => get_any R 0 W h (by omega))
 have HI0:=Zh h0
 have HSET:=Zh hset
 have HDR:=Zh hdr
 have HCE:=Zh hcell
 have HSZ:=Zh hs
 clear h0 hset hdr hcell hs e1
 by_cases hc:s.data.toList[0]?=some c
 case neg =>
  have hp:Lib.hasPrefix s.data.toList [c]=false:=by rw [hpre];exact decide_eq_false hc
  have ht:Lib.trimPrefix s.data.toList [c]=s.data.toList:=by unfold Lib.trimPrefix;rw [hp];rfl
  have hn:numsC c s.data.toList=none:=by unfold numsC;rw [if_neg hc]
  rw [hp,ht] at HCP
  have es:(⟨s.data.toList.toArray⟩:ByteArray)=s:=by cases s;simp
  rw [es] at HCP
  have HN:=Zh hn
  have hc0:=(HCE.out 0 [] w HI0.out 0 (by omega)).1
  obtain ⟨q,hq⟩:∃ q,q=Var.get s.data.toList 0:=⟨_,rfl⟩
  have hg:=HG.out s w HSZ.out
  rw [← hq] at hg
  have HGS:=Zh hg
  clear hp ht hn es hpre hq hg hc HG
  go_enter Tryz.func85,Tryz.ntmps85
  go_wp2_with fail
  refine HCP.out.mono ?_
  rintro e w1 ⟨rfl,rfl⟩
  go_wp2_with fail
  go_loopw [6,7,21] (fun v6 v7 v21 wr => v6=.string s∧v7=.bool false∧v21=.int .i64 0∧wr=w1) (fun _ _ _ _ => 0)
  case atStart => exact ⟨rfl,rfl,rfl,rfl⟩
  case round =>
  obtain ⟨rfl,rfl,rfl,rfl⟩:=hrel
  go_wp2_with fail
  refine HGS.out.mono ?_
  rintro e w2 ⟨rfl,rfl⟩
  cases q with
  | none =>
   unfold gotE
   go_wp2_with fail
   refine bodyPost_ret (v:=.tuple #[.string ⟨#[]⟩,.bool false]) (by simp [results,Tryz.results85,go_sem]) rfl ?_
   exact .inr ⟨HN.out,rfl,0,[],HI0.out⟩
  | some y =>
   obtain ⟨n,p⟩:=y
   unfold gotE
   go_wp2_with fail
   refine bodyPost_ret (v:=.tuple #[.string ⟨#[]⟩,.bool false]) (by simp [results,Tryz.results85,go_sem]) rfl ?_
   exact .inr ⟨HN.out,rfl,0,[],HI0.out⟩
 case pos =>
 have hp:Lib.hasPrefix s.data.toList [c]=true:=by rw [hpre];exact decide_eq_true hc
 have ht:Lib.trimPrefix s.data.toList [c]=s.data.toList.drop 1:=by unfold Lib.trimPrefix;rw [hp];rfl
 rw [hp,ht] at HCP
 obtain ⟨R0,hR0⟩:∃ R0:ByteArray,R0=⟨(s.data.toList.drop 1).toArray⟩:=⟨_,rfl⟩
 rw [← hR0] at HCP
 have hRd:R0.data.toList=s.data.toList.drop 1:=by rw [hR0]
 have hRz:R0.size≤maxLen:=by
  have h1:R0.size=R0.data.toList.length:=by simp
  have h2:s.size=s.data.toList.length:=by simp
  have h3:=HSZ.out
  rw [h1,hRd,List.length_drop]
  omega
 have HR0:=Zh (show Po.nums 0 (s.data.toList.drop 1)=some ([],R0.data.toList)∧R0.size≤maxLen from ⟨by rw [hRd];rfl,hRz⟩)
 have HNC:=Zh (show numsC c s.data.toList=Po.nums 3 (s.data.toList.drop 1) from by unfold numsC;rw [if_pos hc])
 obtain ⟨S,hS⟩:∃ S,S=s.data.toList.drop 1:=⟨_,rfl⟩
 rw [← hS] at HR0 HNC
 clear hp ht hpre hc hR0 hRd hRz hS
 go_enter Tryz.func85,Tryz.ntmps85
 go_wp2_with fail
 refine HCP.out.mono ?_
 rintro e w1 ⟨rfl,rfl⟩
 clear HCP
 go_wp2_with fail
 go_loopw [6,7,21] (fun v6 v7 v21 wr => ∃ (i:Nat) (ns:List Nat) (R:ByteArray),v6=.string R∧v7=.bool true∧v21=.int .i64 i∧i≤3∧Po.nums i S=some (ns,R.data.toList)∧R.size≤maxLen∧I i ns wr) (fun _ _ v21 _ => 3-(intOf v21).toNat)
 case atStart => exact ⟨0,[],R0,rfl,rfl,rfl,by omega,HR0.out.1,HR0.out.2,HI0.out⟩
 case round =>
 obtain ⟨i,ns,R,rfl,rfl,rfl,hi,hnu,hRz,hIw⟩:=hrel
 have HNU:=Zh hnu
 have HIW:=Zh hIw
 have HRZ:=Zh hRz
 by_cases hlt:i<3
 · have hlt2:(i:Int)<3:=by omega
   have hc0:=(HCE.out i ns wr hIw i hlt).1
   have hg:=HG.out R wr hRz
   obtain ⟨q,hq⟩:∃ q,q=Var.get R.data.toList 0:=⟨_,rfl⟩
   rw [← hq] at hg
   have HGS:=Zh hg
   have HQ:=Zh hq
   clear hnu hIw hRz hg hq
   go_wp2_with fail
   refine HGS.out.mono ?_
   rintro e w2 ⟨rfl,rfl⟩
   clear HGS
   cases q with
   | none =>
    have hn3:Po.nums 3 S=none:=by
     have h1:Po.nums (i+1) S=none:=by rw [nums_snoc,HNU.out];simp only;rw [← HQ.out]
     have:=nums_none (i+1) (2-i) S h1
     rwa [show i+1+(2-i)=3 by omega] at this
    have HN3:=Zh hn3
    clear hn3
    unfold gotE
    go_wp2_with fail
    refine bodyPost_ret (v:=.tuple #[.string ⟨#[]⟩,.bool false]) (by simp [results,Tryz.results85,go_sem]) rfl ?_
    exact .inr ⟨by rw [HNC.out,HN3.out],rfl,i,ns,HIW.out⟩
   | some y =>
    obtain ⟨n,p⟩:=y
    obtain ⟨b1,b2,_,_,b5⟩:=Var.get_back HQ.out.symm
    have hsz:R.size=R.data.toList.length:=by simp
    rw [← hsz] at b1
    have hpz:(p:Int)≤R.size:=by omega
    have hp0:(0:Int)≤p:=by omega
    rw [Var.pow9] at b5
    have HB5:=Zh b5
    have HNEXT:=Zh (show Po.nums (i+1) S=some (ns++[n],(R.extract p R.size).data.toList)∧(R.extract p R.size).size≤maxLen from by
     refine ⟨?_,?_⟩
     · rw [nums_snoc,HNU.out]
       simp only
       rw [← HQ.out]
       simp only
       rw [ByteArray.data_extract,Array.toList_extract,List.extract_eq_take_drop]
       congr 2
       rw [List.take_of_length_le]
       rw [List.length_drop,hsz]
       exact Nat.le_refl _
     rw [ByteArray.size_extract]
     have:=HRZ.out
     omega)
    clear hsz b2 b5
    unfold gotE
    go_wp2_with fail
    refine wp_region_two (T:=fun _ => True) (S:=fun _ => True) (n:=99) (by kernel_rfl) ?_
    obtain ⟨y1,hy1⟩:∃ y1,y1=wr.drew:=⟨_,rfl⟩
    rw [← hy1]
    have HI1:=Zh (show I i ns y1 by rw [hy1];exact HDR.out _ _ _ HIW.out)
    have hS:True:=trivial
    have hT:True:=trivial
    obtain ⟨_,⟨u9,hu9⟩,hf9⟩:=HCE.out i ns y1 HI1.out i hlt
    clear hy1
    refine tk 0 37 hT hS ?_
    refine tk 1 38 hT hS ?_
    try simp only [xq]
    refine tk 2 39 hT hS ?_
    refine tk 3 40 hT hS ?_
    try simp only [xq]
    refine tk 4 41 hT hS ?_
    refine tk 5 42 hT hS ?_
    try simp only [xq]
    refine two_one 6 rfl (by kernel_rfl) ?_
    intro K hK
    go_simp
    obtain ⟨y2,hy2⟩:∃ y2,y2=y1.setCell (pa i) (.int .i64 n):=⟨_,rfl⟩
    rw [← hy2]
    have HI2:=Zh (show I (i+1) (ns++[n]) y2 by rw [hy2];exact HSET.out i ns n y1 hlt HB5.out HI1.out)
    refine hK.out _ _ hT (fun _ _ => hS) ?_
    clear hK K hy2 hu9 hf9
    try simp only [xq]
    refine tk 7 6 hT hS ?_
    try simp only [xq]
    refine two_done (by kernel_rfl) ?_ _
    clear hT hS
    go_wp2_with fail
    go_roundw
    case rel => exact ⟨i+1,ns++[n],_,rfl,rfl,by go_num,by omega,HNEXT.out.1,HNEXT.out.2,HI2.out⟩
    case measure => simp [intOf];omega
 obtain rfl:i=3:=by omega
 go_wp2_with fail
 refine bodyPost_ret (v:=.tuple #[.string R,.bool true]) (by simp [results,Tryz.results85,go_sem]) rfl ?_
 refine .inl ⟨ns,R.data.toList,by rw [HNC.out,HNU.out],?_,HIW.out⟩
 rw [show (⟨R.data.toList.toArray⟩:ByteArray)=R by cases R;simp]
end Go.Proofs.YtdacanghbepjpaaGreatDoor
namespace Go.Proofs.YtdacanghbepjpaaGreatDoor
open Go.RowKit
def ackV (h f n:Int):Value:=.agg #[.int .i64 h,.int .i64 f,.int .i64 n]
def ackB (h f n:Int):ByteArray:=⟨(Po.ackS h f (n-f)).toArray⟩
open Classical in
noncomputable def encAck (h f n:Int):ByteArray×Int:=if Po.AckOk h f n then (ackB h f n,0) else (⟨#[]⟩,2)
set_option maxHeartbeats 4000000 in
theorem encAck_any (h f n:Int) (w:World):Calls Tryz.prog 31 #[ackV h f n] w fun e w' => e=.returned (.tuple #[.string (encAck h f n).1,.int .i64 (encAck h f n).2])∧Below w.heap.size w w':=by
 unfold ackV
 obtain ⟨q,hq⟩:∃ q,q=w.heap.size:=⟨_,rfl⟩
 obtain ⟨w1,hw1⟩:∃ w1,w1=w.alloc (.cells #[.int .i64 h,.int .i64 f,.int .i64 n] 51 (0,0)):=⟨_,rfl⟩
 have hb1:=Zb hw1
 have hk1:=Zk hw1 hq
 have HB1:=Zh hb1
 have k0:=hk1.cell 0
 have k1:=hk1.cell 1
 have k2:=hk1.cell 2
 simp only [Zx] at k0 k1 k2
 have HW1:=Zh hw1
 have hno:¬ Po.AckOk h f n→encAck h f n=(⟨#[]⟩,2):=fun e => by unfold encAck;rw [if_neg e]
 have hyes:Po.AckOk h f n→encAck h f n=(ackB h f n,0):=fun e => by unfold encAck;rw [if_pos e]
 have HH:=Zh (fun W:World => host_any h W)
 have HF:=Zh (fun W:World => record_any f W)
 have HN:=Zh (fun W:World => record_any n W)
 clear hb1 hk1 hw1
 by_cases a1:Po.HostOk h
 case neg =>
  rw [decide_eq_false a1] at HH
  have HNO:=Zh (hno fun e => a1 e.host)
  clear hno hyes a1
  go_enter Tryz.func31,Tryz.ntmps31
  go_wp2_with fail
  rw [← HW1.out,← hq]
  clear hq
  refine (HH.out w1).mono ?_
  rintro e w2 ⟨rfl,rfl⟩
  go_wp2_with fail
  refine bodyPost_ret (v:=.tuple #[.string ⟨#[]⟩,.int .i64 2]) (by simp [results,Tryz.results31,go_sem]) rfl ?_
  exact ⟨by rw [HNO.out],HB1.out⟩
 case pos =>
 rw [decide_eq_true a1] at HH
 by_cases a2:Po.RecOk f
 case neg =>
  rw [decide_eq_false a2] at HF
  have HNO:=Zh (hno fun e => a2 e.first)
  clear hno hyes a1 a2
  go_enter Tryz.func31,Tryz.ntmps31
  go_wp2_with fail
  rw [← HW1.out,← hq]
  clear hq
  refine (HH.out w1).mono ?_
  rintro e w2 ⟨rfl,rfl⟩
  go_wp2_with fail
  refine (HF.out w1).mono ?_
  rintro e w2 ⟨rfl,rfl⟩
  go_wp2_with fail
  refine bodyPost_ret (v:=.tuple #[.string ⟨#[]⟩,.int .i64 2]) (by simp [results,Tryz.results31,go_sem]) rfl ?_
  exact ⟨by rw [HNO.out],HB1.out⟩
 case pos =>
 rw [decide_eq_true a2] at HF
 by_cases a3:n<f
 case pos =>
  have HNO:=Zh (hno fun e => by have:=e.le;omega)
  clear hno hyes a1 a2
  go_enter Tryz.func31,Tryz.ntmps31
  go_wp2_with fail
  rw [← HW1.out,← hq]
  clear hq
  refine (HH.out w1).mono ?_
  rintro e w2 ⟨rfl,rfl⟩
  go_wp2_with fail
  refine (HF.out w1).mono ?_
  rintro e w2 ⟨rfl,rfl⟩
  go_wp2_with fail
  refine bodyPost_ret (v:=.tuple #[.string ⟨#[]⟩,.int .i64 2]) (by simp [results,Tryz.results31,go_sem]) rfl ?_
  exact ⟨by rw [HNO.out],HB1.out⟩
 case neg =>
 by_cases a4:Po.RecOk n
 case neg =>
  rw [decide_eq_false a4] at HN
  have HNO:=Zh (hno fun e => a4 e.next)
  clear hno hyes a1 a2 a4
  go_enter Tryz.func31,Tryz.ntmps31
  go_wp2_with fail
  rw [← HW1.out,← hq]
  clear hq
  refine (HH.out w1).mono ?_
  rintro e w2 ⟨rfl,rfl⟩
  go_wp2_with fail
  refine (HF.out w1).mono ?_
  rintro e w2 ⟨rfl,rfl⟩
  go_wp2_with fail
  refine (HN.out w1).mono ?_
  rintro e w2 ⟨rfl,rfl⟩
  go_wp2_with fail
  refine bodyPost_ret (v:=.tuple #[.string ⟨#[]⟩,.int .i64 2]) (by simp [results,Tryz.results31,go_sem]) rfl ?_
  exact ⟨by rw [HNO.out],HB1.out⟩
 case pos =>
 rw [decide_eq_true a4] at HN
 have HYES:=Zh (hyes ⟨a1,a2,by omega,a4⟩)
 have hz:=putsB_list 65 h f (n-f)
 have HP:=Zh (fun (W:World) (g:Nat) => puts_any ⟨#[65]⟩ (show 1≤10 by decide) h f (n-f) ⟨a1.1,by have:=a1.2;omega⟩ ⟨a2.1,by have:=a2.2;omega⟩ ⟨by omega,by have:=a4.2;have:=a2.1;omega⟩ W g)
 rw [hz] at HP
 have hfn:-9223372036854775808≤n-f:=by omega
 have hfn2:n-f<9223372036854775808:=by have:=a4.2;have:=a2.1;omega
 have HLE:=Zh (show Po.ackS h f (n-f)=65::(Ed.pn h++(Ed.pn f++Ed.pn (n-f))) from rfl)
 clear hno hyes a1 a2 a4
 go_enter Tryz.func31,Tryz.ntmps31
 go_wp2_with fail
 rw [← HW1.out,← hq]
 clear hq
 refine (HH.out w1).mono ?_
 rintro e w2 ⟨rfl,rfl⟩
 go_wp2_with fail
 refine (HF.out w1).mono ?_
 rintro e w2 ⟨rfl,rfl⟩
 go_wp2_with fail
 refine (HN.out w1).mono ?_
 rintro e w2 ⟨rfl,rfl⟩
 go_wp2_with fail
 obtain ⟨g,hg⟩:∃ g,g=w1.heap.size:=⟨_,rfl⟩
 rw [← hg]
 obtain ⟨w2,hw2⟩:∃ w2,w2=w1.alloc (.cells #[.int .i64 h,.int .i64 f,.int .i64 (n-f)] 3 (0,0)):=⟨_,rfl⟩
 rw [← hw2]
 have hb2:=Zb hw2
 have hk2:=Zk hw2 hg
 have c0:=hk2.cell 0
 have c1:=hk2.cell 1
 have c2:=hk2.cell 2
 simp only [Zx] at c0 c1 c2
 have hlt:=hk2.lt
 have HB2:=Zh (HB1.out.trans (hb2.mono HB1.out.size))
 clear hg hw2 hk2 hb2
 refine (HP.out w2 g hlt c0 c1 c2).mono ?_
 rintro e w3 ⟨rfl,hb3⟩
 have HB3:=Zh (HB2.out.trans (hb3.mono HB2.out.size))
 clear hb3 c0 c1 c2 hlt
 go_wp2_with fail
 refine bodyPost_ret (v:=.tuple #[.string (ackB h f n),.int .i64 0]) (by simp [results,Tryz.results31,go_sem];unfold ackB;rw [HLE.out]) rfl ?_
 exact ⟨by rw [HYES.out],HB3.out⟩
theorem Blk.set_ot {w:World} {b:Nat} {t:TypeId} {cs:Array Value} (h:Blk w b t cs) (b' i:Nat) (u:Value) (hne:b≠b'):Blk (w.setCell ⟨b',i,none⟩ u) b t cs:=by
 unfold Blk at *
 rw [Below.heap_setCell _ _ _ _ hne,h]
theorem alloc_size (w:World) (o:Obj):(w.alloc o).heap.size=w.heap.size+1:=Array.size_push _
theorem decAck_nums (s:Po.Str):Po.decAck s=match numsC 65 s with
  | some ([a,b,c],[]) => if a<4∧b≤2147483647∧(c:Int)≤2147483647-(b:Int) then some ((a:Int),(b:Int),(b:Int)+(c:Int)) else none
  | _ => none:=by
 unfold Po.decAck numsC
 by_cases h:s[0]?=some 65
 · rw [if_pos h,if_pos h]
   rfl
 rw [if_neg h,if_neg h]
def ackVs (ns:List Nat):Array Value:=#[.int .i64 (ns.getD 0 0:Nat),.int .i64 (ns.getD 1 0:Nat),.int .i64 (ns.getD 2 0:Nat)]
theorem ackVs_set {ns:List Nat} (i n:Nat) (h:ns.length=i) (hi:i<3):(ackVs ns).setIfInBounds i (.int .i64 (n:Int))=ackVs (ns++[n]):=by
 match ns,h with
 | [],rfl => simp [ackVs]
 | [a],rfl => simp [ackVs]
 | [a,b],rfl => simp [ackVs]
structure AckI (w W:World) (q0 q1 g:Nat) (i:Nat) (ns:List Nat):Prop where
 below:Below w.heap.size w W
 len:ns.length=i
 small:∀ n∈ns,n<9223372036854775808
 res:Blk W q0 51 #[.int .i64 0,.int .i64 0,.int .i64 0]
 blk:Blk W q1 51 (ackVs ns)
 ptr:Blk W g 142 #[.pointer (some ⟨q1,0,none⟩),.pointer (some ⟨q1,1,none⟩),.pointer (some ⟨q1,2,none⟩)]
theorem AckI.drew {w W:World} {q0 q1 g i:Nat} {ns:List Nat} (h:AckI w W q0 q1 g i ns):AckI w W.drew q0 q1 g i ns:=⟨h.below.drew,h.len,h.small,h.res,h.blk,h.ptr⟩
theorem AckI.set {w W:World} {q0 q1 g i:Nat} {ns:List Nat} (h:AckI w W q0 q1 g i ns) (hq:w.heap.size≤q1) (h0:q0≠q1) (hg:g≠q1) {n:Nat} (hi:i<3) (hn:n<9223372036854775808):AckI w (W.setCell ⟨q1,i,none⟩ (.int .i64 n)) q0 q1 g (i+1) (ns++[n]) :=
 ⟨h.below.setCell (p:=⟨q1,i,none⟩) hq _,by rw [List.length_append,h.len];rfl,fun m hm => by
  rcases List.mem_append.1 hm with hm | hm
  · exact h.small m hm
  · rw [List.mem_singleton.1 hm];exact hn,
  h.res.set_ot _ _ _ h0,(by rw [← ackVs_set i n h.len hi];exact h.blk.set i _),h.ptr.set_ot _ _ _ hg⟩
def decAckV (s:Po.Str):Value:=match Po.decAck s with
 | some (h,f,n) => .tuple #[ackV h f n,.int .i64 0]
 | none => .tuple #[ackV 0 0 0,.int .i64 30]
set_option maxHeartbeats 4000000 in
theorem decAck_any (s:ByteArray) (hs:s.size≤maxLen) (w:World):Calls Tryz.prog 23 #[.string s] w fun e w' => e=.returned (decAckV s.data.toList)∧Below w.heap.size w w':=by
 obtain ⟨q0,hq0⟩:∃ q,q=w.heap.size:=⟨_,rfl⟩
 obtain ⟨w1,hw1⟩:∃ w1,w1=w.alloc (.cells #[.int .i64 0,.int .i64 0,.int .i64 0] 51 (0,0)):=⟨_,rfl⟩
 have hb1:=Zb hw1
 have hk1:=Zk hw1 hq0
 obtain ⟨q1,hq1⟩:∃ q,q=w1.heap.size:=⟨_,rfl⟩
 obtain ⟨w2,hw2⟩:∃ w2,w2=w1.alloc (.cells #[.int .i64 0,.int .i64 0,.int .i64 0] 51 (0,0)):=⟨_,rfl⟩
 have hb2:=Zb hw2
 have hk2:=Zk hw2 hq1
 obtain ⟨g,hg⟩:∃ q,q=w2.heap.size:=⟨_,rfl⟩
 obtain ⟨w3,hw3⟩:∃ w3,w3=w2.alloc (.cells #[.pointer (some ⟨q1,0,none⟩),.pointer (some ⟨q1,1,none⟩),.pointer (some ⟨q1,2,none⟩)] 142 (0,0)):=⟨_,rfl⟩
 have hb3:=Zb hw3
 have hk3:=Zk hw3 hg
 have hle0:w.heap.size≤q0:=by omega
 have hle1:w.heap.size≤q1:=by have:=hb1.size;omega
 have hn01:q0≠q1:=by have:=hk1.lt;omega
 have hng1:g≠q1:=by have:=hk2.lt;omega
 have hi0:AckI w w3 q0 q1 g 0 [] :=
  ⟨(hb1.trans (hb2.mono hb1.size)).trans (hb3.mono (by have:=hb1.size;have:=hb2.size;omega)),rfl,(fun _ h => nomatch h),(hk1.below hb2).below hb3,hk2.below hb3,hk3⟩
 have HG:=Zh (gets_any s hs 65 g (fun k => ⟨q1,k,none⟩) w3 (fun i ns W => AckI w W q0 q1 g i ns) hi0 (fun i ns n W hi hn h => h.set hle1 hn01 hng1 hi hn) (fun i ns W h => h.drew) (fun i ns W h k hk => by
  refine ⟨?_,?_,h.blk.free k⟩
  · rw [h.ptr.cell k]
    match k,hk with
    | 0,_ => rfl
    | 1,_ => rfl
    | 2,_ => rfl
  rw [h.blk.cell k]
  match k,hk with
  | 0,_ => exact ⟨_,rfl⟩
  | 1,_ => exact ⟨_,rfl⟩
  | 2,_ => exact ⟨_,rfl⟩))
 have HW1:=Zh hw1
 have HW2:=Zh hw2
 have HW3:=Zh hw3
 have HQ:=Zh (show w.heap.size≤q0∧w.heap.size≤q1∧q0≠q1 from ⟨hle0,hle1,hn01⟩)
 have e1:q0+1=q1:=by rw [hq1,hw1,hq0,alloc_size]
 have e2:q1+1=g:=by rw [hg,hw2,hq1,alloc_size]
 clear hb1 hk1 hw1 hb2 hk2 hw2 hb3 hk3 hw3 hi0 hs hng1 hn01
 go_enter Tryz.func23,Tryz.ntmps23
 go_wp2_with fail
 rw [← HW1.out,← hq0,e1,e2,← HW2.out,← HW3.out]
 refine HG.out.mono ?_
 rintro e w4 (⟨ns,r,hn,rfl,hI⟩ | ⟨hn,rfl,i,ns,hI⟩)
 case inr =>
  have HNO:=Zh (show Po.decAck s.data.toList=none by rw [decAck_nums,hn])
  clear hn HG e1 e2 HW1 HW2 HW3 hq0 hq1 hg hle0 hle1
  have c0:=hI.res.cell 0
  have c1:=hI.res.cell 1
  have c2:=hI.res.cell 2
  simp only [Zx] at c0 c1 c2
  have f0:=hI.res.free 0
  have f1:=hI.res.free 1
  have f2:=hI.res.free 2
  have hk8:=(((hI.res).set 0 (.int .i64 0)).set 1 (.int .i64 0)).set 2 (.int .i64 0)
  have hb8:=(((hI.below).setCell (p:=⟨q0,0,none⟩) HQ.out.1 (.int .i64 0)).setCell (p:=⟨q0,1,none⟩) HQ.out.1 (.int .i64 0)).setCell (p:=⟨q0,2,none⟩) HQ.out.1 (.int .i64 0)
  simp only [List.setIfInBounds_toArray,List.set_cons_zero,List.set_cons_succ] at hk8
  have HK8:=Zh hk8
  have HB8:=Zh hb8
  clear hk8 hb8 hI
  go_wp2_with fail
  have r0:=HK8.out.cell 0
  have r1:=HK8.out.cell 1
  have r2:=HK8.out.cell 2
  simp only [Zx] at r0 r1 r2
  refine bodyPost_ret (v:=.tuple #[.agg #[.int .i64 0,.int .i64 0,.int .i64 0],.int .i64 30]) (by simp [results,Tryz.results23,go_sem,r0,r1,r2]) rfl ?_
  exact ⟨by unfold decAckV;rw [HNO.out];rfl,HB8.out⟩
 case inl =>
 have hl:=hI.len
 match ns,hl with
 | [a,b,c],_ =>
 have sa:=hI.small a (by simp)
 have sb:=hI.small b (by simp)
 have sc:=hI.small c (by simp)
 have HD:=decAck_nums s.data.toList
 rw [hn] at HD
 have HH:=Zh (fun W:World => host_any (a:Int) W)
 have HR:=Zh (fun W:World => record_any (b:Int) W)
 clear hn HG e1 e2 HW1 HW2 HW3 hq0 hq1 hg hle0 hle1 hl
 have k0:=hI.blk.cell 0
 have k1:=hI.blk.cell 1
 have k2:=hI.blk.cell 2
 have c0:=hI.res.cell 0
 have c1:=hI.res.cell 1
 have c2:=hI.res.cell 2
 simp only [ackVs,List.getElem?_toArray,List.getElem?_cons_zero,List.getElem?_cons_succ,List.getD_cons_zero,List.getD_cons_succ] at k0 k1 k2 c0 c1 c2
 have f0:=hI.res.free 0
 have f1:=hI.res.free 1
 have f2:=hI.res.free 2
 have fk2:=hI.blk.free 2
 cases r with
 | cons x r =>
  have HNO:=Zh (show Po.decAck s.data.toList=none from HD)
  obtain ⟨R,hR⟩:∃ R:ByteArray,R=⟨(x::r).toArray⟩:=⟨_,rfl⟩
  rw [← hR]
  have hne:R.toList.isEmpty=false:=by rw [Lib.toList_data,hR];rfl
  clear HD HH HR hR
  have hk8:=(((hI.res).set 0 (.int .i64 0)).set 1 (.int .i64 0)).set 2 (.int .i64 0)
  have hb8:=(((hI.below).setCell (p:=⟨q0,0,none⟩) HQ.out.1 (.int .i64 0)).setCell (p:=⟨q0,1,none⟩) HQ.out.1 (.int .i64 0)).setCell (p:=⟨q0,2,none⟩) HQ.out.1 (.int .i64 0)
  simp only [List.setIfInBounds_toArray,List.set_cons_zero,List.set_cons_succ] at hk8
  have HK8:=Zh hk8
  have HB8:=Zh hb8
  clear hk8 hb8 hI
  go_wp2_with fail
  have r0:=HK8.out.cell 0
  have r1:=HK8.out.cell 1
  have r2:=HK8.out.cell 2
  simp only [Zx] at r0 r1 r2
  refine bodyPost_ret (v:=.tuple #[.agg #[.int .i64 0,.int .i64 0,.int .i64 0],.int .i64 30]) (by simp [results,Tryz.results23,go_sem,r0,r1,r2]) rfl ?_
  exact ⟨by unfold decAckV;rw [HNO.out];rfl,HB8.out⟩
 | nil =>
  simp only at HD
  by_cases a1:a<4
  case neg =>
   rw [if_neg (fun e => a1 e.1)] at HD
   have HNO:=Zh HD
   rw [decide_eq_false (fun e:Po.HostOk (a:Int) => a1 (by have:=e.2;omega))] at HH
   clear HD HR a1
   have hk8:=(((hI.res).set 0 (.int .i64 0)).set 1 (.int .i64 0)).set 2 (.int .i64 0)
   have hb8:=(((hI.below).setCell (p:=⟨q0,0,none⟩) HQ.out.1 (.int .i64 0)).setCell (p:=⟨q0,1,none⟩) HQ.out.1 (.int .i64 0)).setCell (p:=⟨q0,2,none⟩) HQ.out.1 (.int .i64 0)
   simp only [List.setIfInBounds_toArray,List.set_cons_zero,List.set_cons_succ] at hk8
   have HK8:=Zh hk8
   have HB8:=Zh hb8
   clear hk8 hb8 hI
   go_wp2_with fail
   refine (HH.out _).mono ?_
   rintro e w5 ⟨rfl,rfl⟩
   go_wp2_with fail
   have r0:=HK8.out.cell 0
   have r1:=HK8.out.cell 1
   have r2:=HK8.out.cell 2
   simp only [Zx] at r0 r1 r2
   refine bodyPost_ret (v:=.tuple #[.agg #[.int .i64 0,.int .i64 0,.int .i64 0],.int .i64 30]) (by simp [results,Tryz.results23,go_sem,r0,r1,r2]) rfl ?_
   exact ⟨by unfold decAckV;rw [HNO.out];rfl,HB8.out⟩
  case pos =>
  rw [decide_eq_true (show Po.HostOk (a:Int) from ⟨by omega,by omega⟩)] at HH
  by_cases a2:b≤2147483647
  case neg =>
   rw [if_neg (fun e => a2 e.2.1)] at HD
   have HNO:=Zh HD
   rw [decide_eq_false (fun e:Po.RecOk (b:Int) => a2 (by have:=e.2;omega))] at HR
   clear HD a1 a2
   have hk8:=(((hI.res).set 0 (.int .i64 0)).set 1 (.int .i64 0)).set 2 (.int .i64 0)
   have hb8:=(((hI.below).setCell (p:=⟨q0,0,none⟩) HQ.out.1 (.int .i64 0)).setCell (p:=⟨q0,1,none⟩) HQ.out.1 (.int .i64 0)).setCell (p:=⟨q0,2,none⟩) HQ.out.1 (.int .i64 0)
   simp only [List.setIfInBounds_toArray,List.set_cons_zero,List.set_cons_succ] at hk8
   have HK8:=Zh hk8
   have HB8:=Zh hb8
   clear hk8 hb8 hI
   go_wp2_with fail
   refine (HH.out _).mono ?_
   rintro e w5 ⟨rfl,rfl⟩
   go_wp2_with fail
   refine (HR.out _).mono ?_
   rintro e w5 ⟨rfl,rfl⟩
   go_wp2_with fail
   have r0:=HK8.out.cell 0
   have r1:=HK8.out.cell 1
   have r2:=HK8.out.cell 2
   simp only [Zx] at r0 r1 r2
   refine bodyPost_ret (v:=.tuple #[.agg #[.int .i64 0,.int .i64 0,.int .i64 0],.int .i64 30]) (by simp [results,Tryz.results23,go_sem,r0,r1,r2]) rfl ?_
   exact ⟨by unfold decAckV;rw [HNO.out];rfl,HB8.out⟩
  case pos =>
  rw [decide_eq_true (show Po.RecOk (b:Int) from ⟨by omega,by omega⟩)] at HR
  have hm1:(-9223372036854775808:Int)≤2147483647-(b:Int):=by omega
  have hm2:(2147483647-(b:Int))<9223372036854775808:=by omega
  by_cases a3:(c:Int)>2147483647-(b:Int)
  case pos =>
   rw [if_neg (fun e => by omega)] at HD
   have HNO:=Zh HD
   clear HD a1 a2
   have hk8:=(((hI.res).set 0 (.int .i64 0)).set 1 (.int .i64 0)).set 2 (.int .i64 0)
   have hb8:=(((hI.below).setCell (p:=⟨q0,0,none⟩) HQ.out.1 (.int .i64 0)).setCell (p:=⟨q0,1,none⟩) HQ.out.1 (.int .i64 0)).setCell (p:=⟨q0,2,none⟩) HQ.out.1 (.int .i64 0)
   simp only [List.setIfInBounds_toArray,List.set_cons_zero,List.set_cons_succ] at hk8
   have HK8:=Zh hk8
   have HB8:=Zh hb8
   clear hk8 hb8 hI
   go_wp2_with fail
   refine (HH.out _).mono ?_
   rintro e w5 ⟨rfl,rfl⟩
   go_wp2_with fail
   refine (HR.out _).mono ?_
   rintro e w5 ⟨rfl,rfl⟩
   go_wp2_with fail
   have r0:=HK8.out.cell 0
   have r1:=HK8.out.cell 1
   have r2:=HK8.out.cell 2
   simp only [Zx] at r0 r1 r2
   refine bodyPost_ret (v:=.tuple #[.agg #[.int .i64 0,.int .i64 0,.int .i64 0],.int .i64 30]) (by simp [results,Tryz.results23,go_sem,r0,r1,r2]) rfl ?_
   exact ⟨by unfold decAckV;rw [HNO.out];rfl,HB8.out⟩
  case neg =>
  rw [if_pos (by omega)] at HD
  have HYES:=Zh HD
  clear HD a1 a2
  have hkx:=hI.blk.set 2 (.int .i64 ((c:Int)+(b:Int)))
  have hkr:=hI.res.set_ot q1 2 (.int .i64 ((c:Int)+(b:Int))) HQ.out.2.2
  have hbx:=hI.below.setCell (p:=⟨q1,2,none⟩) HQ.out.2.1 (.int .i64 ((c:Int)+(b:Int)))
  simp only [ackVs,List.getD_cons_zero,List.getD_cons_succ,List.setIfInBounds_toArray,List.set_cons_zero,List.set_cons_succ] at hkx
  obtain ⟨y1,hy1⟩:∃ y,y=w4.setCell ⟨q1,2,none⟩ (.int .i64 ((c:Int)+(b:Int))):=⟨_,rfl⟩
  rw [← hy1] at hkx hkr hbx
  have HY1:=Zh hy1
  have HKX:=Zh hkx
  have HKR:=Zh hkr
  have HBX:=Zh hbx
  rw [hy1] at hkx hkr
  have z0:=hkx.cell 0
  have z1:=hkx.cell 1
  have z2:=hkx.cell 2
  have x0:=hkr.cell 0
  have x1:=hkr.cell 1
  have x2:=hkr.cell 2
  simp only [Zx] at z0 z1 z2 x0 x1 x2
  have g0:=hkr.free 0
  have g1:=hkr.free 1
  have g2:=hkr.free 2
  clear hkx hkr hbx hy1 hI
  go_wp2_with fail
  refine (HH.out _).mono ?_
  rintro e w5 ⟨rfl,rfl⟩
  go_wp2_with fail
  refine (HR.out _).mono ?_
  rintro e w5 ⟨rfl,rfl⟩
  go_wp2_with fail
  rw [← HY1.out]
  have hk8:=((HKR.out.set 0 (.int .i64 a)).set 1 (.int .i64 b)).set 2 (.int .i64 ((c:Int)+(b:Int)))
  have hb8:=((HBX.out.setCell (p:=⟨q0,0,none⟩) HQ.out.1 (.int .i64 a)).setCell (p:=⟨q0,1,none⟩) HQ.out.1 (.int .i64 b)).setCell (p:=⟨q0,2,none⟩) HQ.out.1 (.int .i64 ((c:Int)+(b:Int)))
  simp only [List.setIfInBounds_toArray,List.set_cons_zero,List.set_cons_succ] at hk8
  have HB8:=Zh hb8
  have r0:=hk8.cell 0
  have r1:=hk8.cell 1
  have r2:=hk8.cell 2
  simp only [Zx] at r0 r1 r2
  clear hk8 hb8
  refine bodyPost_ret (v:=.tuple #[.agg #[.int .i64 a,.int .i64 b,.int .i64 ((c:Int)+(b:Int))],.int .i64 0]) (by simp [results,Tryz.results23,go_sem,r0,r1,r2]) rfl ?_
  refine ⟨?_,HB8.out⟩
  unfold decAckV ackV
  rw [HYES.out]
  simp only
  rw [Int.add_comm (c:Int) (b:Int)]
end Go.Proofs.YtdacanghbepjpaaGreatDoor
namespace Go.Proofs.YtdacanghbepjpaaGreatDoor
open Go.RowKit Go.Maps
theorem rdSp_cells {w:World} {v:Value} {l:List Sp.Span} (h:RdSp w v l):∃ x c,v=.slice x l.length c∧l.length≤c∧∀ (j:Nat) (hj:j<l.length),∃ b off,x=some ⟨b,off,none⟩∧b<w.heap.size ∧
  w.cell? ⟨b,off+j*8,none⟩=some (.int .i64 l[j].trace)∧w.cell? ⟨b,off+j*8+1,none⟩=some (.int .i64 l[j].id)∧w.cell? ⟨b,off+j*8+2,none⟩=some (.int .i64 l[j].parent)∧w.cell? ⟨b,off+j*8+3,none⟩=some (.string l[j].service) ∧
  w.cell? ⟨b,off+j*8+4,none⟩=some (.string l[j].host)∧w.cell? ⟨b,off+j*8+5,none⟩=some (.int .i64 l[j].start)∧w.cell? ⟨b,off+j*8+6,none⟩=some (.int .i64 l[j].dur)∧w.cell? ⟨b,off+j*8+7,none⟩=some (.string l[j].note):=by
 obtain ⟨x,c,e,hc,h⟩:=h
 refine ⟨x,c,e,hc,fun j hj => ?_⟩
 obtain ⟨b,off,e,hb,k⟩:=h j hj
 exact ⟨b,off,e,hb,k 0 _ rfl,k 1 _ rfl,k 2 _ rfl,k 3 _ rfl,k 4 _ rfl,k 5 _ rfl,k 6 _ rfl,k 7 _ rfl⟩
def upB (h f n:Int) (l:List Sp.Span):ByteArray:=⟨(66::(Ed.pn h++(Ed.pn f++(Ed.pn n++Po.bodyT l)))).toArray⟩
theorem tx_le {x:Sp.Span} (h:Sp.May x):(Po.tx x).length≤121:=by
 unfold Po.tx Ed.encT
 have h1:=Sp.enc_len h
 have h2:=pnB_size (n:=(Sp.enc x).length) (by omega)
 have h3:(pnB (Sp.enc x).length).size=(Ed.pn (Sp.enc x).length).length:=by unfold pnB;rw [size_l]
 rw [List.length_append]
 omega
theorem bodyT_le:∀ {l:List Sp.Span},(∀ y∈l,Sp.May y)→(Po.bodyT l).length≤121*l.length
 | [],_ => by simp [Po.bodyT]
 | x::l,h => by
  rw [Po.bodyT_cons,List.length_append,List.length_cons]
  have h1:=tx_le (h x (by simp))
  have h2:=bodyT_le (l:=l) fun y hy => h y (by simp [hy])
  omega
theorem upB_size {h f n:Int} {l:List Sp.Span} (hh:h<9223372036854775808) (hf:f<9223372036854775808) (hn:n<9223372036854775808) (hm:∀ y∈l,Sp.May y):(upB h f n l).size≤28+121*l.length:=by
 have h1:=pnB_size hh
 have h2:=pnB_size hf
 have h3:=pnB_size hn
 have h4:=bodyT_le hm
 unfold pnB at h1 h2 h3
 rw [size_l] at h1 h2 h3
 unfold upB
 rw [size_l]
 simp only [List.length_cons,List.length_append]
 omega
theorem upB_snoc (h f n:Int) (l:List Sp.Span) (x:Sp.Span) (E:ByteArray) (hE:E.data.toList=Sp.enc x):upB h f n l++encTB E=upB h f n (l++[x]):=by
 unfold upB encTB
 rw [hE,Po.bodyT_snoc]
 apply bytes_ext
 simp [Po.tx]
theorem upB_nil (h f n:Int):(⟨(66::(Ed.pn h++(Ed.pn f++Ed.pn n))).toArray⟩:ByteArray)=upB h f n []:=by
 unfold upB
 simp [Po.bodyT]
set_option maxHeartbeats 8000000 in
theorem encBatch_ok (h f:Int) (l:List Sp.Span) (v:Value) (w:World) (hv:RdSp w v l) (hh:Po.HostOk h) (hf:Po.RecOk f) (hfl:Po.RecOk (f+l.length)) (hl:1≤l.length∧l.length≤8) (hm:∀ y∈l,Sp.May y) :
  Calls Tryz.prog 123 #[.agg #[.int .i64 h,.int .i64 f,v]] w fun e w' => e=.returned (.tuple #[.string (batchB h f l),.int .i64 0])∧Below w.heap.size w w':=by
 obtain ⟨x,c,rfl,hc,hx⟩:=rdSp_cells hv
 obtain ⟨n,hn⟩:∃ n,n=l.length:=⟨_,rfl⟩
 have hbb:batchB h f l=upB h f n l:=by rw [hn];rfl
 have HX:=Zh hx
 rw [← hn] at hc hfl hl ⊢
 rw [hbb]
 obtain ⟨q,hq⟩:∃ q,q=w.heap.size:=⟨_,rfl⟩
 obtain ⟨w1,hw1⟩:∃ w1,w1=w.alloc (.cells #[.int .i64 h,.int .i64 f,.slice x n c] 63 (0,0)):=⟨_,rfl⟩
 have hb1:=Zb hw1
 have hk1:=Zk hw1 hq
 have HB1:=Zh hb1
 have HK1:=Zh hk1
 have k0:=hk1.cell 0
 have k1:=hk1.cell 1
 have k2:=hk1.cell 2
 simp only [Zx] at k0 k1 k2
 have HW1:=Zh hw1
 have HH:=Zh (fun W:World => host_any h W)
 have HF:=Zh (fun W:World => record_any f W)
 have HN:=Zh (fun W:World => record_any (f+n) W)
 rw [decide_eq_true hh] at HH
 rw [decide_eq_true hf] at HF
 rw [decide_eq_true hfl] at HN
 have hz:=putsB_list 66 h f n
 have HP:=Zh (fun (W:World) (g:Nat) => puts_any ⟨#[66]⟩ (show 1≤10 by decide) h f n ⟨hh.1,by have:=hh.2;omega⟩ ⟨hf.1,by have:=hf.2;omega⟩ ⟨by omega,by omega⟩ W g)
 rw [hz,upB_nil] at HP
 have HM:=Zh hm
 have HNL:=Zh hn
 have HSZ:=Zh (fun (k:Nat) => upB_size (h:=h) (f:=f) (n:=n) (l:=l.take k) (by have:=hh.2;omega) (by have:=hf.2;omega) (by omega) fun y hy => hm y (List.mem_of_mem_take hy))
 have hn8:(n:Int)≤8:=by omega
 have hn1:(1:Int)≤n:=by omega
 have hn0:((n:Int) == 0)=false:=by rw [beq_eq_false_iff_ne];omega
 have hf1:=hf.1
 have hf2:=hf.2
 clear hb1 hk1 hw1 hx hbb hz hm hh hf hfl hn hc hv
 go_enter Tryz.func123,Tryz.ntmps123
 go_wp2_with fail
 rw [← HW1.out,← hq]
 clear hq
 refine (HH.out w1).mono ?_
 rintro e w2 ⟨rfl,rfl⟩
 go_wp2_with fail
 refine (HF.out w1).mono ?_
 rintro e w2 ⟨rfl,rfl⟩
 go_wp2_with fail
 refine (HN.out w1).mono ?_
 rintro e w2 ⟨rfl,rfl⟩
 go_wp2_with fail
 obtain ⟨g,hg⟩:∃ g,g=w1.heap.size:=⟨_,rfl⟩
 rw [← hg]
 obtain ⟨w2,hw2⟩:∃ w2,w2=w1.alloc (.cells #[.int .i64 h,.int .i64 f,.int .i64 n] 3 (0,0)):=⟨_,rfl⟩
 rw [← hw2]
 have hb2:=Zb hw2
 have hk2:=Zk hw2 hg
 have c0:=hk2.cell 0
 have c1:=hk2.cell 1
 have c2:=hk2.cell 2
 simp only [Zx] at c0 c1 c2
 have hlt:=hk2.lt
 have HB2:=Zh (HB1.out.trans (hb2.mono HB1.out.size))
 have HK2:=Zh (HK1.out.below hb2)
 clear hg hw2 hk2 hb2 k0 k1 k2
 refine (HP.out w2 g hlt c0 c1 c2).mono ?_
 rintro e w3 ⟨rfl,hb3⟩
 have HB3:=Zh (HB2.out.trans (hb3.mono HB2.out.size))
 have hk3:=HK2.out.below hb3
 have k2:=hk3.cell 2
 simp only [Zx] at k2
 clear hb3 c0 c1 c2 hlt hk3 HP HH HF HN HB2 HK2
 go_wp2_with fail
 go_loopw [4,53] (fun v4 v53 wr => ∃ i:Nat,v53=.int .i64 i∧i≤n∧v4=.string (upB h f n (l.take i))∧Below w.heap.size w wr) (fun _ v53 _ => n-(intOf v53).toNat)
 case atStart => exact ⟨0,rfl,by omega,rfl,HB3.out⟩
 case round =>
 obtain ⟨i,rfl,hi,rfl,hbw⟩:=hrel
 have HB:=Zh hbw
 clear hbw
 have hz:=HSZ.out i
 by_cases hlt:i<n
 · have hlt2:(i:Int)<n:=by omega
   have hil:i<l.length:=by rw [← HNL.out];exact hlt
   obtain ⟨b1,o1,rfl,l1,p0,p1,p2,p3,p4,p5,p6,p7⟩:=HX.out i hil
   have g0:=(HB.out.cell (p:=⟨b1,o1+i*8,none⟩) l1).trans p0
   have g1:=(HB.out.cell (p:=⟨b1,o1+i*8+1,none⟩) l1).trans p1
   have g2:=(HB.out.cell (p:=⟨b1,o1+i*8+2,none⟩) l1).trans p2
   have g3:=(HB.out.cell (p:=⟨b1,o1+i*8+3,none⟩) l1).trans p3
   have g4:=(HB.out.cell (p:=⟨b1,o1+i*8+4,none⟩) l1).trans p4
   have g5:=(HB.out.cell (p:=⟨b1,o1+i*8+5,none⟩) l1).trans p5
   have g6:=(HB.out.cell (p:=⟨b1,o1+i*8+6,none⟩) l1).trans p6
   have g7:=(HB.out.cell (p:=⟨b1,o1+i*8+7,none⟩) l1).trans p7
   have hmx:=HM.out l[i] (List.getElem_mem hil)
   have hst:l.take (i+1)=l.take i++[l[i]]:=by rw [List.take_succ_eq_append_getElem hil]
   obtain ⟨y,hy⟩:∃ y,y=l[i]:=⟨_,rfl⟩
   rw [← hy] at g0 g1 g2 g3 g4 g5 g6 g7 hmx hst
   have hel:=Sp.enc_len hmx
   have HE:=Zh (fun W:World => hencode_any (w:=W) y (by have:=hmx.service.2.1;unfold maxLen;omega) (by have:=hmx.host.2.1;unfold maxLen;omega) (by have:=hmx.note;unfold maxLen;omega))
   have esq:spQ y=(Sp.enc y,0):=by unfold spQ;exact if_pos hmx
   rw [esq] at HE
   simp only at HE
   obtain ⟨E,hE⟩:∃ E:ByteArray,E=⟨(Sp.enc y).toArray⟩:=⟨_,rfl⟩
   rw [← hE] at HE
   have hEl:E.data.toList=Sp.enc y:=by rw [hE]
   have hEz:E.size≤112:=by have:=congrArg List.length hEl;rw [Sp.size_toList] at this;omega
   have HPT:=Zh (fun W:World => putText_any E W (by omega))
   have hsn:=upB_snoc h f n (l.take i) y E hEl
   rw [← hst] at hsn
   have hsz2:=HSZ.out (i+1)
   have hlen1:(l.take i).length≤8:=by rw [List.length_take];omega
   have hlen2:(l.take (i+1)).length≤8:=by rw [List.length_take];omega
   obtain ⟨S,hS⟩:∃ S,S=upB h f n (l.take i):=⟨_,rfl⟩
   rw [← hS] at hz hsn ⊢
   obtain ⟨T,hT⟩:∃ T,T=encTB E:=⟨_,rfl⟩
   rw [← hT] at HPT hsn
   have hts:S.size+T.size≤100000:=by
    have:=congrArg ByteArray.size hsn
    rw [ByteArray.size_append] at this
    omega
   have HSN:=Zh hsn
   obtain ⟨tr,id,pa,se,ho,sa,du,no⟩:=y
   unfold spV at HE
   simp only at HE g0 g1 g2 g3 g4 g5 g6 g7
   clear hy hmx hst hel esq hE hEl hsn hsz2 hlen1 hlen2 hS hT hEz p0 p1 p2 p3 p4 p5 p6 p7 hz
   go_wp2_with fail
   obtain ⟨w4,hw4⟩:∃ w4,w4=wr.alloc (.cells #[.int .i64 tr,.int .i64 id,.int .i64 pa,.string se,.string ho,.int .i64 sa,.int .i64 du,.string no] 47 (0,0)):=⟨_,rfl⟩
   rw [← hw4]
   have hb4:=Zb hw4
   have HB4:=Zh (HB.out.trans (hb4.mono HB.out.size))
   clear hb4 hw4 g0 g1 g2 g3 g4 g5 g6 g7
   refine (HE.out w4).mono ?_
   rintro e w5 ⟨rfl,hb5⟩
   have HB5:=Zh (HB4.out.trans (hb5.mono HB4.out.size))
   clear hb5 HE
   go_wp2_with fail
   refine (HPT.out w5).mono ?_
   rintro e w6 ⟨rfl,hb6⟩
   have HB6:=Zh (HB5.out.trans (hb6.mono HB5.out.size))
   clear hb6 HPT
   go_wp2_with fail
   go_roundw
   case rel => exact ⟨i+1,by go_num,by omega,by rw [HSN.out],HB6.out⟩
   case measure => simp [intOf];omega
 obtain rfl:i=n:=by omega
 have hall:l.take i=l:=List.take_of_length_le (by rw [← HNL.out];exact Nat.le_refl _)
 rw [hall]
 go_wp2_with fail
 refine bodyPost_ret (v:=.tuple #[.string (upB h f i l),.int .i64 0]) (by simp [results,Tryz.results123,go_sem]) rfl ?_
 exact ⟨rfl,HB.out⟩
end Go.Proofs.YtdacanghbepjpaaGreatDoor
namespace Go.Proofs.YtdacanghbepjpaaGreatDoor
open Go.RowKit Go.Maps
def batVs (ns:List Nat):Array Value:=#[.int .i64 (ns.getD 0 0:Nat),.int .i64 (ns.getD 1 0:Nat),.slice none 0 0]
def manyVs (ns:List Nat):Array Value:=#[.int .i64 (ns.getD 2 0:Nat)]
def batPa (q1 q5:Nat):Nat→Addr
 | 0 => ⟨q1,0,none⟩
 | 1 => ⟨q1,1,none⟩
 | _ => ⟨q5,0,none⟩
structure BatI (w W:World) (q0 q1 q5 g:Nat) (i:Nat) (ns:List Nat):Prop where
 below:Below w.heap.size w W
 len:ns.length=i
 res:Blk W q0 63 #[.int .i64 0,.int .i64 0,.slice none 0 0]
 blk:Blk W q1 63 (batVs ns)
 many:Blk W q5 3 (manyVs ns)
 ptr:Blk W g 142 #[.pointer (some ⟨q1,0,none⟩),.pointer (some ⟨q1,1,none⟩),.pointer (some ⟨q5,0,none⟩)]
structure PendS (B:Nat) (w W:World) (sv:Value) (xs:List Sp.Span):Prop where
 chg:Chg (fun k => sv.ownBlock=some k) w W
 sp:OwnSp W B sv xs
end Go.Proofs.YtdacanghbepjpaaGreatDoor

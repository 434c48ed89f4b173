/- A host's daemon, plainly: what it sends, which answers count, what becomes of its cursor. No program in sight. -/
import Derived.Test.YtdacanghbepjpaaGreatDoorM6
import Derived.Test.YtdacanghbepjpaaGreatDoorM1
namespace Go.Proofs.YtdacanghbepjpaaGreatDoor
set_option linter.unusedSimpArgs false
set_option linter.unusedVariables false
open Dsk
structure Dm where
 host:Int
 next:Int
 gap:Int
 out:ByteArray
 many:Int
 sent:Int
def noB:ByteArray:=⟨#[]⟩
def batchB (h f:Int) (l:List Sp.Span):ByteArray:=⟨(Po.batchS h f l).toArray⟩
theorem batchB_ne (h f:Int) (l:List Sp.Span):batchB h f l≠noB:=by
 unfold batchB noB Po.batchS
 intro e
 injection e with e
 have:=congrArg Array.size e
 simp at this
def firstA (d:Dk) (h:Hl):Nat:=if h.runs d then firstOf h.l else 0
def sureA (d:Dk) (h:Hl):Nat:=if h.runs d then sureL d h.l 0 else 0
def keepC (d:Dk) (x:Dm) (a b:Int):Int×Dm×Dk:=let y:=saveD d a b;if y.1≠0 then (y.1,x,y.2) else (0,{ x with next:=a,gap:=b },y.2)
def skipC (d:Dk) (h:Hl) (x:Dm):Int×Dm×Dk:=if (firstA d h:Int)≤x.next then (0,x,d) else keepC d x (firstA d h) (x.gap+firstA d h-x.next)
def batC (d:Dk) (h:Hl) (x:Dm):Int×Dm×Dk :=
 if (sureA d h:Int)≤x.next then (0,x,d)
 else if (readP d h x.next 8).2.2≠0∨(readP d h x.next 8).1=[] then ((readP d h x.next 8).2.2,x,d)
 else (0,{ x with out:=batchB x.host x.next (readP d h x.next 8).1,many:=(readP d h x.next 8).2.1-x.next },d)
def gatherC (d:Dk) (h:Hl) (x:Dm):Int×Dm×Dk:=let y:=skipC d h x;if y.1≠0 then y else batC y.2.2 h y.2.1
open Classical in
noncomputable def stepC (now:Int) (d:Dk) (h:Hl) (x:Dm):(ByteArray×Int)×Dm×Dk :=
 if d.off=true then ((noB,51),x,d)
 else if x.out≠noB then (if now-x.sent<3 then ((noB,0),x,d) else ((x.out,0),{ x with sent:=now },d))
 else let y:=gatherC d h x;if y.1≠0 then ((noB,y.1),y.2.1,y.2.2) else ((y.2.1.out,0),{ y.2.1 with sent:=now },y.2.2)
open Classical in
noncomputable def takeC (s:Str) (d:Dk) (x:Dm):(Bool×Int)×Dm×Dk :=
 if d.off=true then ((false,51),x,d)
 else match Po.decAck s with
  | none => ((false,30),x,d)
  | some (ho,f,n) =>
   if x.out=noB∨ho≠x.host∨f≠x.next∨n≠x.next+x.many then ((false,0),x,d)
   else let y:=keepC d x n x.gap;if y.1≠0 then ((false,y.1),y.2.1,y.2.2) else ((true,0),{ y.2.1 with out:=noB,many:=0 },y.2.2)
def pageL (l:List Sg) (s n:Nat):List Sp.Span:=(((recs l).take (sureOf l s-firstOf l)).drop (n-firstOf l)).take 8
def OutOk (x:Dm) (su:Nat):Prop:=(x.out=noB∧x.many=0)∨∃ ss:List Sp.Span,x.out=batchB x.host x.next ss∧x.many=ss.length∧1≤ss.length∧ss.length≤8∧(∀ y∈ss,Sp.May y)∧x.next+ss.length≤su
structure NodeP (d:Dk) (h:Hl) (s:Nat) (x:Dm):Prop where
 run:RunC d h s x.next x.gap
 gap:0≤x.gap∧x.gap≤x.next
 sure:x.next≤(sureOf h.l s:Nat)
 host:Po.HostOk x.host
 out:OutOk x (sureOf h.l s)
def NodeF (d:Dk) (h:Hl) (s:Nat) (x:Dm) (d':Dk):Prop:=∃ l' t',FlatC d' l' t' x.next x.gap∧Stp h.l s l' (lastT l'++t').length
section
variable {d d':Dk} {h h':Hl} {s s':Nat} {x x':Dm} {l l':List Sg} {t':Str} {n:Nat}
theorem pageL_len (hc:Chained l) (h1:firstOf l≤n) (h2:n≤sureOf l s):(pageL l s n).length=min 8 (sureOf l s-n):=by
 unfold pageL
 have h3:=nextOf_recs hc
 have h4:=sureOf_le l s
 rw [List.length_take,List.length_drop,List.length_take]
 omega
theorem pageL_may (hm:∀ a∈l,∀ y∈a.spans,Sp.May y) (s n:Nat):∀ y∈pageL l s n,Sp.May y:=fun y hy => by
 have h1:y∈recs l:=List.mem_of_mem_take (List.mem_of_mem_drop (List.mem_of_mem_take hy))
 obtain ⟨a,ha,hya⟩:=List.mem_flatMap.1 h1
 exact hm a ha y hya
theorem OutOk.more {su su':Nat} (o:OutOk x su) (h:su≤su'):OutOk x su':=by
 rcases o with o | ⟨ss,e1,e2,e3,e4,e5,e6⟩
 · exact .inl o
 · exact .inr ⟨ss,e1,e2,e3,e4,e5,by omega⟩
theorem NodeP.off (p:NodeP d h s x):d.off=false:=p.run.off
theorem NodeP.moved (p:NodeP d h s x) (r:RunC d' h' s' x.next x.gap) (st:Stp h.l s h'.l s'):NodeP d' h' s' x :=
 ⟨r,p.gap,by have:=p.sure;have:=st.kr.sure;omega,p.host,p.out.more st.kr.sure⟩
theorem NodeP.act (p:NodeP d h s x) (a:ActC d h s x.next x.gap d' h'):(∃ s',NodeP d' h' s' x∧Stp h.l s h'.l s')∨NodeF d h s x d':=by
 rcases a with ⟨s',r,st⟩ | ⟨l',t',f,st⟩
 · exact .inl ⟨s',p.moved r st,st⟩
 · exact .inr ⟨l',t',f,st⟩
theorem NodeP.keep (p:NodeP d h s x) {a b:Int} (hr1:d.files.length<1024) (hr2:total d.files+19≤d.room) (hb:0≤b∧b≤a) (ha:a≤(sureOf h.l s:Nat)) (hs:sureOf h.l s≤2147483647) :
  ((keepC d x a b).1=0∧(keepC d x a b).2.1={ x with next:=a,gap:=b }∧RunC (keepC d x a b).2.2 h s a b)∨((keepC d x a b).1=51∧(keepC d x a b).2.1=x∧NodeF d h s x (keepC d x a b).2.2):=by
 have hm:Cur.May a b:=⟨by omega,by omega,by omega,by omega⟩
 unfold keepC
 rcases p.run.save hm hr1 hr2 with ⟨e,r⟩ | ⟨e,l',t',f,st⟩
 · simp only [e,ne_eq,not_true_eq_false,if_false]
   exact .inl ⟨trivial,trivial,r⟩
 · simp only [e]
   rw [if_pos (by decide)]
   exact .inr ⟨rfl,rfl,l',t',f,st⟩
theorem NodeP.first (p:NodeP d h s x):firstA d h=firstOf h.l∧sureA d h=sureOf h.l s:=by
 unfold firstA sureA
 rw [if_pos p.run.runs,if_pos p.run.runs,p.run.sureL]
 exact ⟨rfl,rfl⟩
structure Stepped (d:Dk) (h:Hl) (s:Nat) (x x':Dm) (d':Dk):Prop where
 node:NodeP d' h s x'
 first:x'.out=noB∨x.out≠noB∨firstOf h.l≤x'.next.toNat
 next:x'.next=x.next∨(x.next<x'.next∧x'.next=(firstOf h.l:Nat))
 gap:x'.gap-x.gap=x'.next-x.next
theorem NodeP.skip (p:NodeP d h s x) (ho:x.out=noB) (hr1:d.files.length<1024) (hr2:total d.files+19≤d.room) (hs:sureOf h.l s≤2147483647) :
  ((skipC d h x).1=0∧NodeP (skipC d h x).2.2 h s (skipC d h x).2.1∧(firstOf h.l:Int)≤(skipC d h x).2.1.next∧(skipC d h x).2.1.out=noB∧((skipC d h x).2.1.next=x.next∨(x.next<(skipC d h x).2.1.next∧(skipC d h x).2.1.next=(firstOf h.l:Nat)))∧(skipC d h x).2.1.gap-x.gap=(skipC d h x).2.1.next-x.next) ∨
  ((skipC d h x).1=51∧(skipC d h x).2.1=x∧NodeF d h s x (skipC d h x).2.2):=by
 obtain ⟨e1,_⟩:=p.first
 have hf:=first_le_sure p.run.chain s
 obtain ⟨g1,g2⟩:=p.gap
 unfold skipC
 rw [e1]
 by_cases hle:(firstOf h.l:Int)≤x.next
 · rw [if_pos hle]
   exact .inl ⟨rfl,p,hle,ho,.inl rfl,by simp⟩
 · rw [if_neg hle]
   rcases p.keep (a:=(firstOf h.l:Nat)) (b:=x.gap+(firstOf h.l:Nat)-x.next) hr1 hr2 (by omega) (by omega) hs with ⟨k1,k2,k3⟩ | ⟨k1,k2,k3⟩
   · have hm:x.many=0:=by
      rcases p.out with ⟨_,e⟩ | ⟨ss,e,_⟩
      · exact e
      · rw [ho] at e;exact absurd e.symm (batchB_ne _ _ _)
     refine .inl ⟨k1,?_,?_,?_,?_,?_⟩
     · rw [k2]
       exact ⟨k3,⟨by show 0≤x.gap+(firstOf h.l:Nat)-x.next;omega,by show x.gap+(firstOf h.l:Nat)-x.next≤(firstOf h.l:Nat);omega⟩,by show ((firstOf h.l:Nat):Int)≤_;omega,p.host,.inl ⟨ho,hm⟩⟩
     · rw [k2];exact Int.le_refl _
     · rw [k2];exact ho
     · rw [k2];exact .inr ⟨by show x.next<((firstOf h.l:Nat):Int);omega,rfl⟩
     · rw [k2];show x.gap+(firstOf h.l:Nat)-x.next-x.gap=(firstOf h.l:Nat)-x.next;omega
   · exact .inr ⟨k1,k2,k3⟩
theorem NodeP.bat (p:NodeP d h s x) (ho:x.out=noB) (hf:(firstOf h.l:Int)≤x.next) :
  batC d h x=(if (sureOf h.l s:Int)≤x.next then (0,x,d) else (0,{ x with out:=batchB x.host x.next (pageL h.l s x.next.toNat),many:=(pageL h.l s x.next.toNat).length },d))∧NodeP d h s (batC d h x).2.1:=by
 obtain ⟨_,e2⟩:=p.first
 obtain ⟨g1,g2⟩:=p.gap
 obtain ⟨n,hn⟩:∃ n:Nat,x.next=n:=⟨x.next.toNat,by omega⟩
 have hsu:=p.sure
 have e:batC d h x=(if (sureOf h.l s:Int)≤x.next then (0,x,d) else (0,{ x with out:=batchB x.host x.next (pageL h.l s x.next.toNat),many:=(pageL h.l s x.next.toNat).length },d)):=by
  unfold batC
  rw [e2]
  by_cases hle:(sureOf h.l s:Int)≤x.next
  · rw [if_pos hle,if_pos hle]
  · rw [if_neg hle,if_neg hle]
    have hp:=p.run.read (n:=n) (m:=8) (by omega) (by omega)
    have hl:=pageL_len (n:=n) p.run.chain (s:=s) (by omega) (by omega)
    rw [hn]
    have h8:((8:Nat):Int)=8:=rfl
    rw [h8] at hp
    have hpg:(((recs h.l).take (sureOf h.l s-firstOf h.l)).drop (n-firstOf h.l)).take 8=pageL h.l s n:=rfl
    rw [hpg] at hp
    rw [hp]
    simp only
    rw [if_neg]
    · simp only [Int.toNat_natCast,Prod.mk.injEq,true_and,and_true]
      congr 1
      omega
    · intro e
      rcases e with e | e
      · exact e rfl
      · rw [e] at hl
        simp at hl
        omega
 refine ⟨e,?_⟩
 rw [e]
 by_cases hle:(sureOf h.l s:Int)≤x.next
 · rw [if_pos hle]
   exact p
 · rw [if_neg hle]
   have hl:=pageL_len (n:=n) p.run.chain (s:=s) (by omega) (by omega)
   have hmay:=pageL_may (l:=h.l) (by obtain ⟨dr,f,_⟩:=p.run.file;exact f.sgs.may) s n
   rw [hn]
   simp only [Int.toNat_natCast]
   refine ⟨?_,?_,?_,p.host,.inr ⟨pageL h.l s n,rfl,rfl,by omega,by omega,hmay,by show (n:Int)+_≤_;omega⟩⟩
   · have:=p.run;rw [hn] at this;exact this
   · show 0≤x.gap∧x.gap≤(n:Int);omega
   · show ((n:Nat):Int)≤_;omega
theorem NodeP.sent (p:NodeP d h s x) (now:Int):NodeP d h s { x with sent:=now } :=
 ⟨p.run,p.gap,p.sure,p.host,by
  rcases p.out with o | ⟨ss,e1,e2,r⟩
  · exact .inl o
  · exact .inr ⟨ss,e1,e2,r⟩⟩
theorem NodeP.step (p:NodeP d h s x) (now:Int) (hr1:d.files.length<1024) (hr2:total d.files+19≤d.room) (hs:sureOf h.l s≤2147483647) :
  ((stepC now d h x).1.2=0∧NodeP (stepC now d h x).2.2 h s (stepC now d h x).2.1∧((stepC now d h x).1.1=noB∨(stepC now d h x).1.1=(stepC now d h x).2.1.out)∧x.next≤(stepC now d h x).2.1.next∧(stepC now d h x).2.1.gap-x.gap=(stepC now d h x).2.1.next-x.next) ∨
  ((stepC now d h x).1=(noB,51)∧(stepC now d h x).2.1=x∧NodeF d h s x (stepC now d h x).2.2):=by
 unfold stepC
 rw [if_neg (by rw [p.off];decide)]
 by_cases ho:x.out=noB
 · rw [if_neg (fun e => e ho)]
   unfold gatherC
   rcases p.skip ho hr1 hr2 hs with ⟨k1,k2,k3,k4,k5,k6⟩ | ⟨k1,k2,k3⟩
   · simp only [k1,ne_eq,not_true_eq_false,if_false]
     obtain ⟨y,hy⟩:∃ y,y=skipC d h x:=⟨_,rfl⟩
     rw [← hy] at k1 k2 k3 k4 k5 k6 ⊢
     obtain ⟨r,x1,d1⟩:=y
     simp only at k1 k2 k3 k4 k5 k6 ⊢
     obtain ⟨b1,b2⟩:=k2.bat k4 k3
     have hb:(batC d1 h x1).1=0∧(batC d1 h x1).2.2=d1∧(batC d1 h x1).2.1.next=x1.next∧(batC d1 h x1).2.1.gap=x1.gap:=by
      rw [b1]
      split
      · exact ⟨rfl,rfl,rfl,rfl⟩
      · exact ⟨rfl,rfl,rfl,rfl⟩
     obtain ⟨c1,c2,c3,c4⟩:=hb
     rw [c1]
     simp only [not_true_eq_false,if_false]
     refine .inl ⟨trivial,?_,.inr (by first | rfl | trivial),?_,?_⟩
     · rw [c2];exact b2.sent now
     · show x.next≤(batC d1 h x1).2.1.next
       rw [c3];omega
     · show (batC d1 h x1).2.1.gap-x.gap=(batC d1 h x1).2.1.next-x.next
       rw [c3,c4];exact k6
   · simp only [k1]
     have h51:(51:Int)≠0:=by decide
     simp only [ne_eq,h51,not_false_eq_true,if_true]
     rw [k1,if_pos h51]
     exact .inr ⟨rfl,k2,k3⟩
 · rw [if_pos ho]
   by_cases ht:now-x.sent<3
   · rw [if_pos ht]
     exact .inl ⟨rfl,p,.inl rfl,Int.le_refl _,by simp⟩
   · rw [if_neg ht]
     exact .inl ⟨rfl,p.sent now,.inr rfl,Int.le_refl _,by simp⟩
theorem NodeP.take (p:NodeP d h s x) (b:Po.Str) (hr1:d.files.length<1024) (hr2:total d.files+19≤d.room) (hs:sureOf h.l s≤2147483647) :
  ((takeC b d x).1.1=false∧(takeC b d x).2=(x,d)∧((Po.decAck b=none∧(takeC b d x).1.2=30)∨((takeC b d x).1.2=0∧Po.decAck b≠none∧(x.out=noB∨Po.decAck b≠some (x.host,x.next,x.next+x.many))))) ∨
  ((takeC b d x).1=(true,0)∧x.out≠noB∧Po.decAck b=some (x.host,x.next,x.next+x.many)∧(takeC b d x).2.1={ x with next:=x.next+x.many,out:=noB,many:=0 }∧NodeP (takeC b d x).2.2 h s { x with next:=x.next+x.many,out:=noB,many:=0 }) ∨
  ((takeC b d x).1=(false,51)∧x.out≠noB∧Po.decAck b=some (x.host,x.next,x.next+x.many)∧(takeC b d x).2.1=x∧NodeF d h s x (takeC b d x).2.2):=by
 unfold takeC
 rw [if_neg (by rw [p.off];decide)]
 cases hd:Po.decAck b with
 | none => exact .inl ⟨rfl,rfl,.inl ⟨rfl,rfl⟩⟩
 | some q =>
  obtain ⟨ho,f,n⟩:=q
  simp only
  by_cases hg:x.out=noB∨ho≠x.host∨f≠x.next∨n≠x.next+x.many
  · rw [if_pos hg]
    refine .inl ⟨rfl,rfl,.inr ⟨rfl,by simp,?_⟩⟩
    rcases hg with hg | hg
    · exact .inl hg
    · refine .inr fun e => ?_
      simp only [Option.some.injEq,Prod.mk.injEq] at e
      obtain ⟨e1,e2,e3⟩:=e
      rcases hg with hg | hg | hg
      · exact hg e1
      · exact hg e2
      · exact hg e3
  · rw [if_neg hg]
    have h1:x.out≠noB:=fun e => hg (.inl e)
    have h2:ho=x.host:=Classical.byContradiction fun e => hg (.inr (.inl e))
    have h3:f=x.next:=Classical.byContradiction fun e => hg (.inr (.inr (.inl e)))
    have h4:n=x.next+x.many:=Classical.byContradiction fun e => hg (.inr (.inr (.inr e)))
    subst h2 h3 h4
    obtain ⟨g1,g2⟩:=p.gap
    have hsu:x.next+x.many≤(sureOf h.l s:Nat)∧1≤x.many:=by
     rcases p.out with ⟨o,_⟩ | ⟨ss,_,e2,e3,_,_,e6⟩
     · exact absurd o h1
     · omega
    rcases p.keep (a:=x.next+x.many) (b:=x.gap) hr1 hr2 (by omega) hsu.1 hs with ⟨k1,k2,k3⟩ | ⟨k1,k2,k3⟩
    · simp only [k1,ne_eq,not_true_eq_false,if_false]
      refine .inr (.inl ⟨trivial,h1,trivial,by rw [k2],⟨k3,⟨g1,by show x.gap≤x.next+x.many;omega⟩,by show x.next+x.many≤_;exact hsu.1,p.host,.inl ⟨rfl,rfl⟩⟩⟩)
    · simp only [k1]
      rw [if_pos (by decide)]
      exact .inr (.inr ⟨by first | rfl | trivial,h1,by first | rfl | trivial,k2,k3⟩)
theorem NodeF.again (f:NodeF d h s x d') (p:NodeP d h s x) (hr1:d'.files.length<1024) (hr2:2*total d'.files≤d'.room) (hn:nextOf h.l≤900000000) :
  d'.off=true∧d'.start.1=0∧d'.start.2.off=false∧∃ l' t' dr,LSt d'.start.2 l' t' (lastT l'++t').length dr∧nextOf l'≤nextOf h.l+65536∧∃ d3 s3,openP d'.start.2 l' t'=(0,d3)∧NodeP d3 ⟨d'.start.2.starts,false,l'⟩ s3 ⟨x.host,x.next,x.gap,noB,0,0⟩∧Stp h.l s l' s3∧loadD d3=((x.next,x.gap),0)∧d3.fail=none:=by
 obtain ⟨l',t',fl,st⟩:=f
 obtain ⟨s1,s2,s3,dr,s4,c⟩:=fl.start
 have hroom:d'.start.2.room=d'.room:=by unfold Dk.start;split <;> rfl
 have hfiles:d'.start.2.files=d'.files:=by unfold Dk.start;split <;> rfl
 have hnx:nextOf l'≤nextOf h.l+65536:=by
  have h1:=nextOf_recs s4.sgs.chain
  have h2:=s4.recs_leC.1
  have h3:=st.first
  have h4:=sureOf_le h.l s
  omega
 obtain ⟨d3,o1,o2,o3,o4,o5⟩:=open_upC s4 c s2 s3 (by omega) (by rw [hfiles];exact hr1) (by rw [hroom,hfiles];exact hr2)
 have hst:Stp h.l s l' (lastT l').length:=st.trans o3 rfl
 refine ⟨fl.off,s1,s2,l',t',dr,s4,hnx,d3,_,o1,⟨o2,p.gap,?_,p.host,.inl ⟨rfl,rfl⟩⟩,hst,o2.load,o4⟩
 have:=p.sure
 have:=hst.kr.sure
 show x.next≤((sureOf l' (lastT l').length:Nat):Int)
 omega
end
end Go.Proofs.YtdacanghbepjpaaGreatDoor

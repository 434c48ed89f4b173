/- A host's log on a disk that does not fail and has room; the chapter's log: plainly. No program in sight. A host's log: which records a page has, plainly. No program in sight. A host's log on a disk that does not fail: appended, rotated, synced, read: plainly. No program in sight. The chapter's log, plainly: what its example comes to. No program in sight. A host's log of which segments were thrown away, plainly. No program in sight. A host's log on a disk that may fail: what each act of the laws leaves, plainly. No program in sight. A cursor's file beside a host's log's files on one disk: plainly. No program in sight. A host's log and a cursor on one disk that may fail: what each act leaves, plainly. No program in sight. -/
import Derived.Test.YtdacanghbepjpaaGreatDoorM5
import Derived.Test.YtdacanghbepjpaaGreatDoorM2
namespace Go.Proofs.YtdacanghbepjpaaGreatDoor
set_option linter.unusedSimpArgs false
set_option linter.unusedVariables false
open Dsk
section
variable {d:Dk} {l:List Sg} {s:Nat} {st:Int} {dr:Files}
def Room (d:Dk) (l:List Sg) (dr:Files):Prop:=l.length+dr.length<1024∧(sgT (recs l)).length+total dr+120≤d.room
theorem Room.not (h:Room d l dr):¬ NoRoom d l dr:=by
 unfold Room at h
 unfold NoRoom
 omega
theorem app_calm (h:LSt d l [] s dr) (hoff:d.off=false) (hf:d.fail=none) (hr:Room d l dr) (hb:nextOf l≤999999999) (x:Sp.Span) (hx:Sp.May x) :
  ∃ d' s',appP d ⟨st,false,l⟩ x=(0,⟨st,false,pushed l x⟩,d')∧Kept d d'∧LSt d' (pushed l x) [] s' dr∧KR l s (pushed l x) s'∧(s'=s∨s'=0):=by
 rcases app_out (st:=st) h hoff hb x hx with ⟨_,_,_,_,_,_,e⟩ | e | ⟨_,_,e⟩
 · exact absurd e hr.not
 · exact e
 · exact absurd hf e.1
theorem sync_calm (h:LSt d l [] s dr) (hoff:d.off=false) (hf:d.fail=none) :
  ∃ d',syncP d ⟨st,false,l⟩=(0,⟨st,false,l⟩,d')∧Kept d d'∧LSt d' l [] (lastT l).length dr∧KR l s l (lastT l).length:=by
 rcases sync_out (st:=st) h hoff with e | ⟨_,_,e⟩
 · exact e
 · exact absurd hf e.1
theorem rot_calm (h:LSt d l [] s dr) (hoff:d.off=false) (hf:d.fail=none) (hr:Room d l dr) (hb:nextOf l≤999999999) :
  ∃ d' s',rotP d ⟨st,false,l⟩=(0,⟨st,false,turned l⟩,d')∧Kept d d'∧LSt d' (turned l) [] s' dr∧KR l s (turned l) s'∧(s'=s∨s'=0):=by
 rcases rot_out (st:=st) h hoff hb with ⟨_,_,_,_,_,_,e⟩ | e | ⟨_,_,e⟩
 · exact absurd e hr.not
 · exact e
 · exact absurd hf e.1
theorem ret_calm (h:LSt d l [] s dr) (hoff:d.off=false) (hf:d.fail=none) (n:Int) (hn:1≤n) :
  ∃ d',retP n d ⟨st,false,l⟩=(0,⟨st,false,l.drop (l.length-n.toNat)⟩,d')∧Kept d d'∧LSt d' (l.drop (l.length-n.toNat)) [] s dr∧KR l s (l.drop (l.length-n.toNat)) s∧sureOf (l.drop (l.length-n.toNat)) s=sureOf l s:=by
 rcases ret_out (st:=st) h hoff n hn with e | ⟨_,_,_,e⟩
 · exact e
 · exact absurd hf e.1
theorem recs_turned (l:List Sg):recs (turned l)=recs l∧firstOf (turned l)=firstOf l∧nextOf (turned l)=nextOf l∧(turned l).length≤l.length+1∧l.length≤(turned l).length:=by
 unfold turned
 rcases List.eq_nil_or_concat l with rfl | ⟨init,a,rfl⟩
 · exact ⟨rfl,rfl,rfl,by simp,by simp⟩
 · rw [List.concat_eq_append,getLast_snoc]
   simp only
   split
   · exact ⟨rfl,rfl,rfl,by omega,by omega⟩
   · refine ⟨by rw [recs_snoc];simp,by cases init <;> rfl,?_,by simp,by simp⟩
     rw [nextOf_snoc,nextOf_snoc]
     simp [Sg.next]
theorem next_pushed {x:Sp.Span} (h:Chained l) (hp:Chained (pushed l x)):nextOf (pushed l x)=nextOf l+1:=by
 rw [nextOf_recs hp,nextOf_recs h,first_pushed,recs_pushed,List.length_append,List.length_singleton]
 omega
end
/-! ### the chapter's log -/
end Go.Proofs.YtdacanghbepjpaaGreatDoor
namespace Go.Proofs.YtdacanghbepjpaaGreatDoor
set_option linter.unusedSimpArgs false
set_option linter.unusedVariables false
open Dsk
def numFrom:Nat→List Sp.Span→List (Nat×Sp.Span)
 | _,[] => []
 | n,x::l => (n,x)::numFrom (n+1) l
def numbered (l:List Sg):List (Nat×Sp.Span):=l.flatMap fun a => numFrom a.first a.spans
theorem numFrom_length:∀ (l:List Sp.Span) (n:Nat),(numFrom n l).length=l.length
 | [],_ => rfl
 | _::l,n => by simp [numFrom,numFrom_length l (n+1)]
theorem numFrom_append:∀ (a b:List Sp.Span) (n:Nat),numFrom n (a++b)=numFrom n a++numFrom (n+a.length) b
 | [],b,n => by simp [numFrom]
 | x::a,b,n => by
  simp only [List.cons_append,numFrom,List.length_cons]
  rw [numFrom_append a b (n+1),show n+1+a.length=n+(a.length+1) by omega]
def rdStep (f s m:Int) (acc:List Sp.Span) (p:Nat×Sp.Span):List Sp.Span:=if f≤p.1∧(p.1:Int)<s∧(acc.length:Int)<m then acc++[p.2] else acc
def rdL (f s m:Int) (l:List (Nat×Sp.Span)):List Sp.Span:=l.foldl (rdStep f s m) []
theorem rdL_snoc (f s m:Int) (l:List (Nat×Sp.Span)) (p:Nat×Sp.Span):rdL f s m (l++[p])=rdStep f s m (rdL f s m l) p:=by unfold rdL;rw [List.foldl_append];rfl
theorem rdStep_len (f s m:Int) (acc:List Sp.Span) (p:Nat×Sp.Span):(rdStep f s m acc p).length≤acc.length+1:=by unfold rdStep;split <;> simp
theorem rdL_len (f s m:Int):∀ l:List (Nat×Sp.Span),(rdL f s m l).length≤l.length:=fun l => by
 suffices h:∀ (l:List (Nat×Sp.Span)) acc,(l.foldl (rdStep f s m) acc).length≤acc.length+l.length by have:=h l [];rw [List.length_nil,Nat.zero_add] at this;exact this
 intro l
 induction l with
 | nil => intro acc;simp
 | cons p l ih =>
  intro acc
  have h1:=ih (rdStep f s m acc p)
  have h2:=rdStep_len f s m acc p
  rw [List.foldl_cons,List.length_cons]
  omega
theorem rd_from (f s m:Nat):∀ (l:List Sp.Span) (n:Nat) (acc:List Sp.Span),(numFrom n l).foldl (rdStep f s m) acc=acc++((l.take (s-n)).drop (f-n)).take (m-acc.length)
 | [],n,acc => by simp [numFrom]
 | x::l,n,acc => by
  rw [numFrom,List.foldl_cons,rd_from f s m l (n+1)]
  unfold rdStep
  simp only
  by_cases hs:n<s
  · obtain ⟨k,hk⟩:∃ k,s-n=k+1:=⟨s-n-1,by omega⟩
    have hk2:s-(n+1)=k:=by omega
    rw [hk,hk2,List.take_succ_cons]
    by_cases hf:f≤n
    · rw [show f-n=0 by omega,show f-(n+1)=0 by omega,List.drop_zero,List.drop_zero]
      by_cases hm:acc.length<m
      · rw [if_pos (by omega)]
        obtain ⟨j,hj⟩:∃ j,m-acc.length=j+1:=⟨m-acc.length-1,by omega⟩
        rw [hj,List.take_succ_cons,List.length_append,List.length_singleton,show m-(acc.length+1)=j by omega,List.append_assoc]
        rfl
      · rw [if_neg (by omega),show m-acc.length=0 by omega]
        simp
    · rw [if_neg (by omega)]
      obtain ⟨j,hj⟩:∃ j,f-n=j+1:=⟨f-n-1,by omega⟩
      rw [hj,show f-(n+1)=j by omega,List.drop_succ_cons]
  · rw [if_neg (by omega),show s-n=0 by omega,show s-(n+1)=0 by omega]
    simp
theorem numbered_eq:∀ (l:List Sg),Chained l→numbered l=numFrom (firstOf l) (recs l)
 | [],_ => rfl
 | [a],_ => by simp [numbered,firstOf,recs]
 | a::b::r,h => by
  have ih:=numbered_eq (b::r) h.2.2
  show numFrom a.first a.spans++numbered (b::r)=numFrom a.first (a.spans++recs (b::r))
  rw [ih,numFrom_append]
  congr 2
  exact h.2.1
def readP (d:Dk) (h:Hl) (f m:Int):List Sp.Span×Int×Int :=
 if ¬ h.runs d then ([],0,51)
 else if m<0 then ([],0,2)
 else if f<firstOf h.l∨(sureL d h.l 0:Int)<f then ([],0,4)
 else (rdL f (sureL d h.l 0) m (numbered h.l),f+(rdL f (sureL d h.l 0) m (numbered h.l)).length,0)
theorem rd_law {l:List Sg} (h:Chained l) (f s m:Nat) (hf:firstOf l≤f):rdL f s m (numbered l)=(((recs l).take (s-firstOf l)).drop (f-firstOf l)).take m:=by
 unfold rdL
 rw [numbered_eq l h,rd_from]
 simp
theorem numbered_length (l:List Sg):(numbered l).length=(recs l).length:=by
 induction l with
 | nil => rfl
 | cons a l ih => 
  show (numFrom a.first a.spans++numbered l).length=(a.spans++recs l).length
  rw [List.length_append,List.length_append,ih,numFrom_length]
end Go.Proofs.YtdacanghbepjpaaGreatDoor
namespace Go.Proofs.YtdacanghbepjpaaGreatDoor
set_option linter.unusedSimpArgs false
set_option linter.unusedVariables false
open Dsk
section
variable {d:Dk} {l:List Sg} {t:Str} {s:Nat} {dr:Files} {h:Hl} {rs:List Sp.Span} {k:Nat}
theorem LSt.synced_last {init:List Sg} {a:Sg} (h:LSt d (init++[a]) t s dr):d.synced (ln a.first)=s:=by unfold Dk.synced;rw [h.get_last]
theorem LSt.synced_full {init:List Sg} {a b:Sg} (h:LSt d (init++[a]) t s dr) (hb:b∈init):d.synced (ln b.first)=(sgT b.spans).length:=by unfold Dk.synced;rw [h.get_full hb]
theorem sureL_full:∀ (init:List Sg) (a:Sg) (n:Nat),(∀ b∈init,d.synced (ln b.first)=(sgT b.spans).length)→sureL d (init++[a]) n=a.first+sureN a.spans (d.synced (ln a.first))
 | [],a,n,_ => by
  show sureL d [a] n=_
  unfold sureL
  split
  · rfl
  · rfl
 | b::init,a,n,hf => by
  have hb:=hf b List.mem_cons_self
  have e:sureN b.spans (d.synced (ln b.first))=b.spans.length:=sureN_all _ _ (by rw [hb];exact Nat.le_refl _)
  show sureL d (b::(init++[a])) n=_
  unfold sureL
  rw [e,if_neg (Nat.lt_irrefl _)]
  exact sureL_full init a _ fun c hc => hf c (List.mem_cons_of_mem _ hc)
theorem LSt.sureL (h:LSt d l t s dr) (n:Nat) (hn:l=[]→n=0):sureL d l n=sureOf l s:=by
 rcases List.eq_nil_or_concat l with rfl | ⟨init,a,rfl⟩
 · rw [hn rfl];rfl
 · rw [List.concat_eq_append] at *
   rw [sureL_full init a n fun b hb => h.synced_full hb,sureOf_snoc,h.synced_last]
theorem sureOf_all (h:SgsOk l):sureOf l (lastT l).length=nextOf l:=by
 rcases List.eq_nil_or_concat l with rfl | ⟨init,a,rfl⟩
 · rfl
 · rw [List.concat_eq_append,sureOf_snoc,nextOf_snoc,lastT_snoc,sureN_all _ _ (Nat.le_refl _)]
   rfl
structure Calm (d:Dk) (h:Hl) (rs:List Sp.Span) (k:Nat):Prop where
 off:d.off=false
 fail:d.fail=none
 room:d.room=1048576
 st:d.starts=h.st
 lost:h.lost=false
 recs:recs h.l=rs
 first:firstOf h.l=0
 many:h.l.length≤k
 long:rs.length≤k
 file:∃ s,LSt d h.l [] s []
theorem Calm.runs (c:Calm d h rs k):h.runs d:=⟨c.lost,c.off,c.st⟩
theorem Calm.next (c:Calm d h rs k):nextOf h.l=rs.length:=by
 obtain ⟨s,hs⟩:=c.file
 rw [nextOf_recs hs.sgs.chain,c.first,c.recs]
 omega
theorem Calm.may (c:Calm d h rs k):∀ x∈rs,Sp.May x:=fun x hx => by
 obtain ⟨s,hs⟩:=c.file
 rw [← c.recs] at hx
 obtain ⟨a,ha,hxa⟩:=List.mem_flatMap.1 hx
 exact hs.sgs.may a ha x hxa
theorem spans_le (l:List Sg):∀ a∈l,a.spans.length≤(Go.Proofs.YtdacanghbepjpaaGreatDoor.recs l).length:=by
 induction l with
 | nil => intro a ha;cases ha
 | cons b l ih =>
  intro a ha
  rw [recs_cons,List.length_append]
  rcases List.mem_cons.1 ha with rfl | ha
  · omega
  · have:=ih a ha;omega
theorem app_bad (d:Dk) (h:Hl) {x:Sp.Span} (hx:¬ Sp.May x):appP d h x=(2,h,d):=by unfold appP;rw [if_pos hx]
theorem LSt.new {c:Nat} (h1:1≤c) (h2:c≤1048576):LSt (Dk.new c) [] [] 0 [] :=
 ⟨Ok.new h1 h2,.inl ⟨rfl,rfl,List.Perm.refl _⟩,⟨trivial,fun a ha => by cases ha⟩,fnil_none,Nat.zero_le _,IsDr.nil,fun e => absurd rfl e⟩
end
end Go.Proofs.YtdacanghbepjpaaGreatDoor
namespace Go.Proofs.YtdacanghbepjpaaGreatDoor
set_option linter.unusedSimpArgs false
set_option linter.unusedVariables false
open Dsk
section
variable {d:Dk} {l:List Sg} {s R:Nat} {h:Hl}
structure Cm (d:Dk) (h:Hl) (R:Nat) (l:List Sg) (s:Nat):Prop where
 off:d.off=false
 fail:d.fail=none
 room:d.room=R
 st:d.starts=h.st
 lost:h.lost=false
 segs:h.l=l
 file:LSt d l [] s []
theorem Cm.runs (c:Cm d h R l s):h.runs d:=⟨c.lost,c.off,c.st⟩
end
end Go.Proofs.YtdacanghbepjpaaGreatDoor
namespace Go.Proofs.YtdacanghbepjpaaGreatDoor
set_option linter.unusedSimpArgs false
set_option linter.unusedVariables false
open Dsk
section
variable {d:Dk} {l:List Sg} {s k:Nat} {h:Hl} {rs:List Sp.Span}
structure Left (d:Dk) (h:Hl) (rs:List Sp.Span) (m f:Nat):Prop where
 runs:h.runs d
 many:h.l.length=m
 first:firstOf h.l=f
 le:f≤rs.length
 recs:recs h.l=rs.drop f
 next:nextOf h.l=rs.length
 sure:sureL d h.l 0=rs.length
 file:∃ s,LSt d h.l [] s []
theorem Left.may {m f:Nat} (c:Left d h rs m f):∀ a∈h.l,∀ x∈a.spans,Sp.May x:=by
 obtain ⟨s,hs⟩:=c.file
 exact hs.sgs.may
end
end Go.Proofs.YtdacanghbepjpaaGreatDoor
namespace Go.Proofs.YtdacanghbepjpaaGreatDoor
set_option linter.unusedSimpArgs false
set_option linter.unusedVariables false
open Dsk
structure Run (d:Dk) (h:Hl) (s:Nat):Prop where
 runs:h.runs d
 file:LSt d h.l [] s []
structure Stp (l:List Sg) (s:Nat) (l':List Sg) (s':Nat):Prop where
 kr:KR l s l' s'
 first:firstOf l'≤sureOf l s
section
variable {d d':Dk} {l l':List Sg} {t:Str} {s s' F:Nat} {h h':Hl}
theorem Run.off (r:Run d h s):d.off=false:=r.runs.2.1
theorem Run.chain (r:Run d h s):Chained h.l:=r.file.sgs.chain
/-! ### bounds -/
theorem LSt.recs_le (h:LSt d l t s []):(recs l).length≤65536∧l.length≤1024:=by
 obtain ⟨e1,e2⟩:=h.total
 have h1:=(sgT_len (recs l) fun x hx => by
  obtain ⟨a,ha,hxa⟩:=List.mem_flatMap.1 hx
  exact h.sgs.may a ha x hxa).1
 have h2:=h.ok.fits
 have h3:=h.ok.room2
 have h4:=h.ok.count
 omega
theorem Stp.next (k:Stp l s l' s') (h':LSt d l' t F []):nextOf l'≤nextOf l+65536:=by
 have h1:=nextOf_recs h'.sgs.chain
 have h2:=h'.recs_le.1
 have h3:=k.first
 have h4:=sureOf_le l s
 omega
theorem Stp.trans {l2:List Sg} {s2:Nat} (a:Stp l s l' s') (b:KR l' s' l2 s2) (e:firstOf l2=firstOf l'):Stp l s l2 s2:=⟨a.kr.trans b,by rw [e];exact a.first⟩
/-! ### what is known -/
/-! ### how much is there -/
structure Grw (d d':Dk) (k m:Nat):Prop where
 total:total d'.files≤total d.files+k
 len:d'.files.length≤d.files.length+m
 room:d'.room=d.room
theorem Grw.refl (d:Dk):Grw d d 0 0:=⟨Nat.le_refl _,Nat.le_refl _,rfl⟩
theorem Grw.trans {a b c:Dk} {k m k' m':Nat} (h:Grw a b k m) (g:Grw b c k' m'):Grw a c (k+k') (m+m'):=⟨by have:=h.total;have:=g.total;omega,by have:=h.len;have:=g.len;omega,g.room.trans h.room⟩
theorem Grw.more {a b:Dk} {k m k' m':Nat} (h:Grw a b k m) (hk:k≤k') (hm:m≤m'):Grw a b k' m':=⟨by have:=h.total;omega,by have:=h.len;omega,h.room⟩
theorem change_grw {d:Dk} {m:Files} (hs:∀ p∈d.files,p.2.safe≤p.2.data.length) {k n:Nat} {d0:Dk} (h1:total d.files≤total d0.files+k) (h2:d.files.length≤d0.files.length+n) (h3:total m≤total d0.files+k) (h4:m.length≤d0.files.length+n) (h5:d.room=d0.room):Grw d0 (d.change m).2 k n:=by
 rcases change_cases d m with ⟨f,e,_⟩ | ⟨e,_⟩
 · rw [e];exact ⟨h3,h4,h5⟩
 · rw [e]
   refine ⟨Nat.le_trans (cutL_total _ _ _ hs) h1,?_,h5⟩
   show (cutL d.keep 0 d.files).length≤_
   rw [cutL_length]
   exact h2
theorem Dsk.Ok.append_grw (ok:Ok d) (n x:Str):Grw d (d.append n x).2 x.length 1:=by
 unfold Dk.append
 split
 · exact (Grw.refl d).more (Nat.zero_le _) (Nat.zero_le _)
 split
 · exact (Grw.refl d).more (Nat.zero_le _) (Nat.zero_le _)
 split
 · exact (Grw.refl d).more (Nat.zero_le _) (Nat.zero_le _)
 · rename_i hn hc
   have hf:=append_facts ok (s:=x) (Classical.byContradiction hn) hc rfl
   have h6:total (put d.files n ⟨((get d.files n).getD ⟨[],0⟩).data++x,((get d.files n).getD ⟨[],0⟩).safe⟩)≤total d.files+x.length:=by
    rw [put_total]
    cases hg:get d.files n with
    | none => rw [del_none hg];simp;omega
    | some f => have:=del_total (rising_apart ok.rising) hg;simp;omega
   have h7:(put d.files n ⟨((get d.files n).getD ⟨[],0⟩).data++x,((get d.files n).getD ⟨[],0⟩).safe⟩).length≤d.files.length+1:=by
    rw [put_length]
    have:=del_le d.files n
    omega
   exact change_grw (d:={ d with files:=_ }) (fun p hp => (hf.2.1 p hp).2) h6 h7 h6 h7 rfl
theorem Dsk.Ok.sync_grw (ok:Ok d) (n:Str):Grw d (d.sync n).2 0 0:=by
 unfold Dk.sync
 split
 · exact Grw.refl d
 split
 · exact Grw.refl d
 · rename_i f hg
   have h1:=del_total (rising_apart ok.rising) hg
   have h2:=del_length (rising_apart ok.rising) hg
   exact change_grw ok.safe (Nat.le_refl _) (Nat.le_refl _) (by rw [put_total];simp only;omega) (by rw [put_length];omega) rfl
theorem Dsk.Ok.remove_grw (ok:Ok d) (n:Str):Grw d (d.remove n).2 0 0:=by
 unfold Dk.remove
 split
 · exact Grw.refl d
 split
 · exact Grw.refl d
 · exact change_grw ok.safe (Nat.le_refl _) (Nat.le_refl _) (total_sub (del_sub _ _)) (del_le _ _) rfl
theorem Dsk.Ok.begin_grw (ok:Ok d) (h:Hl) (b:Str):Grw d (beginP d h b).2.2 b.length 1:=by
 unfold beginP
 have hy:∀ y:Int×Dk,Grw d y.2 0 0→Ok y.2→Grw d (if y.1≠0 then (y.1,h.told y.1,y.2) else
  let z:=y.2.append (ln (nextOf h.l)) b
  if z.1≠0 then (z.1,h.told z.1,z.2) else (0,{ h with l:=h.l++[⟨nextOf h.l,[]⟩] },z.2)).2.2 b.length 1:=by
  intro y g ok2
  split
  · exact g.more (Nat.zero_le _) (Nat.zero_le _)
  · have g2:=(g.trans (ok2.append_grw (ln (nextOf h.l)) b)).more (k':=b.length) (m':=1) (by omega) (by omega)
    simp only
    split
    · exact g2
    · exact g2
 simp only
 cases h.l.getLast? with
 | none => exact hy (0,d) (Grw.refl d) ok
 | some a => exact hy (d.sync (ln a.first)) (ok.sync_grw _) (ok.sync _)
theorem Dsk.Ok.app_grw (ok:Ok d) (h:Hl) (x:Sp.Span):Grw d (appP d h x).2.2 120 1:=by
 unfold appP
 split
 · exact (Grw.refl d).more (Nat.zero_le _) (Nat.zero_le _)
 · rename_i hx
   have hl:=(frm_len (Classical.byContradiction hx)).2
   have hbg:=(ok.begin_grw h (frm x)).more (k':=120) (m':=1) hl (Nat.le_refl _)
   split
   · simp only
     split
     · exact hbg
     · exact hbg
   · split
     · have g2:=(ok.append_grw (ln (by assumption:Sg).first) (frm x)).more (k':=120) (m':=1) hl (Nat.le_refl _)
       simp only
       split
       · exact g2
       · exact g2
     · simp only
       split
       · exact hbg
       · exact hbg
theorem Dsk.Ok.syncP_grw (ok:Ok d) (h:Hl):Grw d (syncP d h).2.2 120 1:=by
 unfold syncP
 split
 · exact (Grw.refl d).more (Nat.zero_le _) (Nat.zero_le _)
 · exact (ok.sync_grw _).more (Nat.zero_le _) (Nat.zero_le _)
theorem Dsk.Ok.rot_grw (ok:Ok d) (h:Hl):Grw d (rotP d h).2.2 120 1:=by
 unfold rotP
 split
 · exact (Grw.refl d).more (Nat.zero_le _) (Nat.zero_le _)
 · split
   · exact (Grw.refl d).more (Nat.zero_le _) (Nat.zero_le _)
   · exact (ok.begin_grw h []).more (Nat.zero_le _) (Nat.le_refl _)
theorem retL_grw (n:Nat):∀ (l:List Sg) (d:Dk),Ok d→Grw d (retL n d l).2.2 0 0
 | [],d,_ => Grw.refl d
 | a::r,d,ok => by
  unfold retL
  split
  · simp only
    split
    · exact ok.remove_grw _
    · exact (ok.remove_grw _).trans (retL_grw n r _ (ok.remove _))
  · exact Grw.refl d
theorem Dsk.Ok.ret_grw (ok:Ok d) (h:Hl) (n:Int):Grw d (retP n d h).2.2 120 1:=by
 unfold retP
 split
 · exact (Grw.refl d).more (Nat.zero_le _) (Nat.zero_le _)
 · exact (retL_grw _ _ _ ok).more (Nat.zero_le _) (Nat.zero_le _)
end
end Go.Proofs.YtdacanghbepjpaaGreatDoor
namespace Go.Proofs.YtdacanghbepjpaaGreatDoor
set_option linter.unusedSimpArgs false
set_option linter.unusedVariables false
open Dsk
def curF (a b:Int):Fl:=⟨(Cur.enc a b).1,(Cur.enc a b).1.length⟩
structure CurR (dr:Files) (a b:Int):Prop where
 may:Cur.May a b
 file:∀ p∈dr,p.1=curN→p.2=curF a b
 none:(∀ p∈dr,p.1≠curN)→a=0∧b=0
section
variable {d d':Dk} {l l':List Sg} {t:Str} {s s':Nat} {dr dr':Files} {a b a' b':Int}
theorem cur_lnew:curN≠lnew:=by decide
theorem cur_dra:curN≠draN:=by decide
theorem cur_head:curN.head?≠some 108:=by decide
theorem dra_head:draN.head?≠some 108:=by decide
theorem cur_named:Named curN:=by decide
theorem dra_named:Named draN:=by decide
theorem CurR.start:CurR [] 0 0:=⟨by decide,fun p hp => (by cases hp),fun _ => ⟨rfl,rfl⟩⟩
theorem CurR.del (c:CurR dr a b) {k:Str} (hk:k≠curN):CurR (Dsk.del dr k) a b :=
 ⟨c.may,fun p hp e => c.file p (mem_del.1 hp).1 e,fun h => c.none fun p hp e => h p (mem_del.2 ⟨hp,by rw [e];exact fun e => hk e.symm⟩) e⟩
theorem CurR.undel (c:CurR (Dsk.del dr lnew) a b):CurR dr a b :=
 ⟨c.may,fun p hp e => c.file p (mem_del.2 ⟨hp,by rw [e];exact cur_lnew⟩) e,fun h => c.none fun p hp e => h p (mem_del.1 hp).1 e⟩
theorem CurR.cuts (c:CurR dr a b) (h:Cuts dr dr'):CurR dr' a b:=by
 obtain ⟨g,rfl⟩:=h
 refine ⟨c.may,fun p hp e => ?_,fun h => c.none fun p hp e => h _ (List.mem_map.2 ⟨p,hp,rfl⟩) e⟩
 obtain ⟨q,hq,rfl⟩:=List.mem_map.1 hp
 show cutF q.2 (g q.1)=_
 rw [c.file q hq e]
 exact cutF_safe _ _
theorem base_ne (l:List Sg) (t:Str) (s:Nat) {k:Str} (hk:k.head?≠some 108):∀ p∈base l t s,p.1≠k:=by
 intro p hp e
 subst e
 unfold base at hp
 split at hp
 · cases hp
 · rcases List.mem_append.1 hp with hp | hp
   · obtain ⟨b,hb,rfl⟩:=List.mem_map.1 hp
     exact hk rfl
   · obtain rfl:p=lastF _ t s:=by simpa using hp
     exact hk rfl
theorem LSt.del_side (h:LSt d l t s dr) {k:Str} (hk:k.head?≠some 108):(Dsk.del d.files k).Perm (base l t s++Dsk.del dr k):=by
 have:=del_perm_filter h.files.perm k
 rw [del_append,del_same (base_ne l t s hk)] at this
 exact this
theorem LSt.get_side (h:LSt d l t s dr) {k:Str} (hk:k.head?≠some 108):(get d.files k=none∧∀ p∈dr,p.1≠k)∨∃ f,(k,f)∈dr∧get d.files k=some f:=by
 cases hg:get d.files k with
 | none => exact .inl ⟨rfl,fun p hp => get_none hg p (h.files.perm.mem_iff.2 (List.mem_append_right _ hp))⟩
 | some f =>
  refine .inr ⟨f,?_,rfl⟩
  rcases List.mem_append.1 (h.files.perm.mem_iff.1 (get_mem hg)) with h1 | h1
  · exact absurd rfl (base_ne l t s hk _ h1)
  · exact h1
theorem put_side {m:Files} {k:Str} {f:Fl} {bs:Files} (h:(Dsk.del m k).Perm (bs++Dsk.del dr k)):(put m k f).Perm (bs++(k,f)::Dsk.del dr k) :=
 (ins_perm _ _).trans ((h.cons _).trans List.perm_middle.symm)
theorem IsDr.side (h:IsDr dr) {k:Str} {f:Fl} (hk:k.head?≠some 108):IsDr ((k,f)::dr):=fun p hp => by
 rcases List.mem_cons.1 hp with rfl | hp
 · exact .inr hk
 · exact h p hp
def FellC (d d':Dk) (l:List Sg) (s:Nat) (a b:Int) (F:Nat):Prop:=d.fail≠none∧Downed d d'∧∃ l' t' dr',LSt d' l' t' (lastT l'++t').length dr'∧CurR dr' a b∧firstOf l'≤F∧KR l s l' (lastT l'++t').length
theorem FellO.cur (f:FellO d d' l s dr) (c:CurR dr a b):FellC d d' l s a b (firstOf l):=by
 obtain ⟨f1,f2,l',t',dr',f3,⟨f4,f5⟩,f6⟩:=f
 exact ⟨f1,f2,l',t',dr',f3,((c.del (fun e => cur_lnew e.symm)).cuts f4).undel,Nat.le_of_eq f5,f6⟩
theorem FellC.kept {d0:Dk} {F:Nat} (k:Kept d0 d) (f:FellC d d' l s a b F):FellC d0 d' l s a b F:=by
 obtain ⟨f1,f2,r⟩:=f
 exact ⟨fun e => f1 (k.2.2.2 e),f2.kept k,r⟩
theorem save_out (h:LSt d l t s dr) (hoff:d.off=false) (c:CurR dr a b) (hm:Cur.May a' b') (hr1:d.files.length<1024) (hr2:total d.files+19≤d.room) :
  (∃ d' dr',saveD d a' b'=(0,d')∧Kept d d'∧LSt d' l t s dr'∧CurR dr' a' b')∨(∃ d',saveD d a' b'=(51,d')∧FellC d d' l s a b (firstOf l)):=by
 have hlen:=Cur.enc_length a' b'
 -- the draft goes
 have h1:(∃ d1 r,d.remove draN=(r,d1)∧(r=0∨r=4)∧Kept d d1∧LSt d1 l t s (Dsk.del dr draN)∧d1.files.length≤d.files.length∧total d1.files≤total d.files)∨(∃ d1,d.remove draN=(51,d1)∧FellC d d1 l s a b (firstOf l)):=by
  rcases h.get_side dra_head with ⟨hg,hn⟩ | ⟨f,hf,hg⟩
  · have e:d.remove draN=(4,d):=by unfold Dk.remove;rw [hoff,if_neg (by decide),hg]
    exact .inl ⟨d,4,e,.inr rfl,Kept.refl _,by rw [del_same hn];exact h,Nat.le_refl _,Nat.le_refl _⟩
  · have e:d.remove draN=d.change (Dsk.del d.files draN):=by unfold Dk.remove;rw [hoff,if_neg (by decide),hg]
    have hgr:=h.ok.remove_grw draN
    have ho:=h.ok
    rcases h.draft_change (m:=Dsk.del d.files draN) (dr':=Dsk.del dr draN) (rising_del ho.rising _) (fun p hp => by have:=(mem_del.1 hp).1;exact ⟨ho.named p this,ho.safe p this⟩)
     (by have:=del_le d.files draN;have:=ho.count;omega) (by have:=total_sub (del_sub d.files draN);have:=ho.fits;omega) (h.dr.del _) (h.del_side dra_head) with ⟨d1,e1,k1,l1⟩ | ⟨d1,e1,f1⟩
    · rw [← e] at e1
      rw [e1] at hgr
      exact .inl ⟨d1,0,e1,.inl rfl,k1,l1,hgr.len,hgr.total⟩
    · rw [← e] at e1
      exact .inr ⟨d1,e1,f1.cur c⟩
 unfold saveD
 rw [if_neg (by rw [hoff];decide),if_neg (fun e => e hm)]
 rcases h1 with ⟨d1,r,e1,hr,k1,l1,z1,z2⟩ | ⟨d1,e1,f1⟩
 case inr =>
  rw [e1]
  exact .inr ⟨d1,by simp,f1⟩
 have c1:CurR (Dsk.del dr draN) a b:=c.del fun e => cur_dra e.symm
 rw [e1]
 simp only
 rw [if_neg (by omega)]
 have hoff1:d1.off=false:=k1.1.trans hoff
 obtain ⟨dr1,hdr1⟩:∃ dr1,dr1=Dsk.del dr draN:=⟨_,rfl⟩
 rw [← hdr1] at l1 c1
 have hno:∀ p∈dr1,p.1≠draN:=fun p hp => by rw [hdr1] at hp;exact (mem_del.1 hp).2
 have hdd:Dsk.del dr1 draN=dr1:=del_same hno
 have hg1:get d1.files draN=none:=by
  rcases l1.get_side dra_head with ⟨hg,_⟩ | ⟨f,hf,_⟩
  · exact hg
  · exact absurd rfl (hno _ hf)
 obtain ⟨E,hE⟩:∃ E,E=(Cur.enc a' b').1:=⟨_,rfl⟩
 rw [← hE] at hlen ⊢
 have hroom1:d1.room=d.room:=k1.2.2.1
 -- the draft is written
 have hc:¬ ((get d1.files draN=none∧1024≤d1.files.length)∨d1.room<total d1.files+E.length):=by
  rw [hroom1]
  omega
 have hf:=append_facts l1.ok (s:=E) dra_named hc rfl
 have hap:d1.append draN E=({ d1 with files:=put d1.files draN ⟨((get d1.files draN).getD ⟨[],0⟩).data++E,((get d1.files draN).getD ⟨[],0⟩).safe⟩ }:Dk).change (put d1.files draN ⟨((get d1.files draN).getD ⟨[],0⟩).data++E,((get d1.files draN).getD ⟨[],0⟩).safe⟩):=by
  unfold Dk.append
  rw [hoff1,if_neg (by decide),if_neg (fun e => e dra_named),if_neg hc]
 simp only [hg1,Option.getD_none,List.nil_append] at hf hap
 have hp:=put_side (f:=⟨E,0⟩) (l1.del_side dra_head)
 rw [hdd] at hp
 obtain ⟨m,hmm⟩:∃ m,m=put d1.files draN ⟨E,0⟩:=⟨_,rfl⟩
 rw [← hmm] at hf hap hp
 have hm2:LSt { d1 with files:=m } l t s ((draN,⟨E,0⟩)::dr1):=l1.redraft (l1.ok.files hf.1 hf.2.1 hf.2.2.1 hf.2.2.2) (l1.dr.side dra_head) hp
 have cdra:∀ f,CurR ((draN,f)::dr1) a b:=fun f => ⟨c1.may,fun p hp e => by
  rcases List.mem_cons.1 hp with rfl | hp
  · exact absurd e.symm cur_dra
  · exact c1.file p hp e,fun hh => c1.none fun p hp => hh p (List.mem_cons_of_mem _ hp)⟩
 rcases LSt.change (d0:=d1) (d:={ d1 with files:=m }) (m:=m) ⟨rfl,rfl,rfl,rfl⟩ hm2 hm2 with ⟨d2,e2,k2,l2⟩ | ⟨d2,e2,f1,f2,l',t',dr2,f3,f4,f5,_⟩
 case inr =>
  rw [hap,e2]
  refine .inr ⟨d2,by simp,FellC.kept k1 ⟨f1,f2,l',t',dr2,f3,(cdra _).cuts f5,Nat.le_of_eq f4.first,f4.kr h.sgs t'⟩⟩
 rw [hap,e2]
 simp only [ne_eq,not_true_eq_false,if_false]
 have hoff2:d2.off=false:=k2.1.trans hoff1
 have hdd2:∀ f,Dsk.del ((draN,f)::dr1) draN=dr1:=fun f => by
  show List.filter _ _=_
  rw [List.filter_cons_of_neg (by simp)]
  exact hdd
 -- the draft is made sure
 have hg2:get d2.files draN=some ⟨E,0⟩:=by
  rcases l2.get_side dra_head with ⟨_,hn⟩ | ⟨f,hf,hg⟩
  · exact absurd rfl (hn _ List.mem_cons_self)
  · rcases List.mem_cons.1 hf with e | hf
    · injection e with _ e;rw [hg,e]
    · exact absurd rfl (hno _ hf)
 have hsy:d2.sync draN=d2.change (put d2.files draN ⟨E,E.length⟩):=by
  unfold Dk.sync
  rw [hoff2,if_neg (by decide),hg2]
 have hp2:=put_side (f:=⟨E,E.length⟩) (l2.del_side dra_head)
 rw [hdd2] at hp2
 have hap2:=rising_apart l2.ok.rising
 rcases l2.draft_change (m:=put d2.files draN ⟨E,E.length⟩) (dr':=(draN,⟨E,E.length⟩)::dr1) (rising_put l2.ok.rising _ _) (fun p hp => by
   rcases mem_put.1 hp with rfl | ⟨hp,_⟩
   · exact ⟨dra_named,Nat.le_refl _⟩
   · exact ⟨l2.ok.named p hp,l2.ok.safe p hp⟩) (by rw [put_length];have:=del_length hap2 hg2;have:=l2.ok.count;omega)
  (by rw [put_total];have:=del_total hap2 hg2;have:=l2.ok.fits;simp only at *;omega) (l1.dr.side dra_head) hp2 with ⟨d3,e3,k3,l3⟩ | ⟨d3,e3,f1⟩
 case inr =>
  rw [hsy,e3]
  exact .inr ⟨d3,by simp,FellC.kept (k1.trans k2) (f1.cur (cdra _))⟩
 rw [hsy,e3]
 simp only [not_true_eq_false,if_false]
 have hoff3:d3.off=false:=k3.1.trans hoff2
 -- it takes the file's place
 have hg3:get d3.files draN=some ⟨E,E.length⟩:=by
  rcases l3.get_side dra_head with ⟨_,hn⟩ | ⟨f,hf,hg⟩
  · exact absurd rfl (hn _ List.mem_cons_self)
  · rcases List.mem_cons.1 hf with e | hf
    · injection e with _ e;rw [hg,e]
    · exact absurd rfl (hno _ hf)
 have hre:d3.rename draN curN=d3.change (put (del d3.files draN) curN ⟨E,E.length⟩):=by
  unfold Dk.rename
  rw [hoff3,if_neg (by decide),hg3]
  simp only
  rw [if_neg (fun e => e cur_named)]
 have hq1:=l3.del_side dra_head
 rw [hdd2] at hq1
 have hq2:(Dsk.del (Dsk.del d3.files draN) curN).Perm (base l t s++Dsk.del dr1 curN):=by
  have:=del_perm_filter hq1 curN
  rw [del_append,del_same (base_ne l t s cur_head)] at this
  exact this
 have hq3:=put_side (f:=⟨E,E.length⟩) hq2
 have hr4:=rising_del l3.ok.rising draN
 have h5:=del_total (rising_apart l3.ok.rising) hg3
 have h6:=del_length (rising_apart l3.ok.rising) hg3
 have h7:=del_le (del d3.files draN) curN
 have h8:=total_sub (del_sub (del d3.files draN) curN)
 rcases l3.draft_change (m:=put (del d3.files draN) curN ⟨E,E.length⟩) (dr':=(curN,⟨E,E.length⟩)::Dsk.del dr1 curN) (rising_put hr4 _ _) (fun p hp => by
   rcases mem_put.1 hp with rfl | ⟨hp,_⟩
   · exact ⟨cur_named,Nat.le_refl _⟩
   · have hp:=(mem_del.1 hp).1
     exact ⟨l3.ok.named p hp,l3.ok.safe p hp⟩) (by rw [put_length];have:=l3.ok.count;omega)
  (by rw [put_total];have:=l3.ok.fits;simp only at *;omega) ((l1.dr.del _).side cur_head) hq3 with ⟨d4,e4,k4,l4⟩ | ⟨d4,e4,f1⟩
 · rw [hre,e4]
   refine .inl ⟨d4,_,rfl,((k1.trans k2).trans k3).trans k4,l4,hm,fun p hp e => ?_,fun hh => absurd rfl (hh _ List.mem_cons_self)⟩
   rcases List.mem_cons.1 hp with rfl | hp
   · show _=curF a' b'
     unfold curF
     rw [hE]
   · exact absurd e (mem_del.1 hp).2
 · rw [hre,e4]
   exact .inr ⟨d4,rfl,FellC.kept ((k1.trans k2).trans k3) (f1.cur (cdra _))⟩
theorem Dsk.Ok.rename_grw (ok:Ok d) (x y:Str):Grw d (d.rename x y).2 0 0:=by
 unfold Dk.rename
 split
 · exact Grw.refl d
 split
 · exact Grw.refl d
 · split
   · exact Grw.refl d
   · rename_i f hg _
     have h1:=del_total (rising_apart ok.rising) hg
     have h2:=del_length (rising_apart ok.rising) hg
     have h3:=del_le (del d.files x) y
     have h4:=total_sub (del_sub (del d.files x) y)
     exact change_grw ok.safe (Nat.le_refl _) (Nat.le_refl _) (by rw [put_total];omega) (by rw [put_length];omega) rfl
theorem Dsk.Ok.save_grw (ok:Ok d) (a b:Int):Grw d (saveD d a b).2 120 1:=by
 have hl:=Cur.enc_length a b
 have g1:=ok.remove_grw draN
 have o1:=ok.remove draN
 have g2:=o1.append_grw draN (Cur.enc a b).1
 have o2:=o1.append draN (Cur.enc a b).1
 have g3:=o2.sync_grw draN
 have o3:=o2.sync draN
 have g4:=o3.rename_grw draN curN
 unfold saveD
 split
 · exact (Grw.refl d).more (Nat.zero_le _) (Nat.zero_le _)
 split
 · exact (Grw.refl d).more (Nat.zero_le _) (Nat.zero_le _)
 split
 · exact g1.more (Nat.zero_le _) (Nat.zero_le _)
 split
 · exact (g1.trans g2).more (by omega) (by omega)
 split
 · exact ((g1.trans g2).trans g3).more (by omega) (by omega)
 · exact (((g1.trans g2).trans g3).trans g4).more (by omega) (by omega)
end
end Go.Proofs.YtdacanghbepjpaaGreatDoor
namespace Go.Proofs.YtdacanghbepjpaaGreatDoor
set_option linter.unusedSimpArgs false
set_option linter.unusedVariables false
open Dsk
structure RunC (d:Dk) (h:Hl) (s:Nat) (a b:Int):Prop where
 runs:h.runs d
 file:∃ dr,LSt d h.l [] s dr∧CurR dr a b
structure FlatC (d:Dk) (l:List Sg) (t:Str) (a b:Int):Prop where
 off:d.off=true
 fail:d.fail=none
 file:∃ dr,LSt d l t (lastT l++t).length dr∧CurR dr a b
section
variable {d d':Dk} {l l':List Sg} {t:Str} {s s' F:Nat} {h h':Hl} {a b a' b':Int}
theorem RunC.hl (r:RunC d h s a b):h=⟨h.st,false,h.l⟩:=by
 obtain ⟨st,lost,l⟩:=h
 have:=r.runs.1
 simp only at this
 rw [this]
theorem RunC.off (r:RunC d h s a b):d.off=false:=r.runs.2.1
theorem RunC.chain (r:RunC d h s a b):Chained h.l:=by obtain ⟨dr,f,_⟩:=r.file;exact f.sgs.chain
theorem RunC.may (r:RunC d h s a b):Cur.May a b:=by obtain ⟨dr,_,c⟩:=r.file;exact c.may
theorem FellC.flat (f:FellC d d' l s a b F) (hF:F≤sureOf l s):∃ l' t',FlatC d' l' t' a b∧Stp l s l' (lastT l'++t').length:=by
 obtain ⟨f1,f2,l',t',dr',f3,f4,f5,f6⟩:=f
 exact ⟨l',t',⟨f2.1,f2.2.2.2,dr',f3,f4⟩,f6,Nat.le_trans f5 hF⟩
theorem RunC.save (r:RunC d h s a b) (hm:Cur.May a' b') (hr1:d.files.length<1024) (hr2:total d.files+19≤d.room) :
  ((saveD d a' b').1=0∧RunC (saveD d a' b').2 h s a' b')∨((saveD d a' b').1=51∧∃ l' t',FlatC (saveD d a' b').2 l' t' a b∧Stp h.l s l' (lastT l'++t').length):=by
 obtain ⟨dr,f0,c⟩:=r.file
 rcases save_out f0 r.off c hm hr1 hr2 with ⟨d',dr',e,k,f,c'⟩ | ⟨d',e,f⟩
 · rw [e]
   exact .inl ⟨rfl,⟨r.runs.1,k.1.trans r.off,k.2.1.trans r.runs.2.2⟩,dr',f,c'⟩
 · rw [e]
   exact .inr ⟨rfl,f.flat (first_le_sure r.chain s)⟩
theorem LSt.recs_leC {dr:Files} (h:LSt d l t s dr):(recs l).length≤65536∧l.length≤1024:=by
 obtain ⟨e1,e2⟩:=h.total
 have h1:=(sgT_len (recs l) fun x hx => by
  obtain ⟨a,ha,hxa⟩:=List.mem_flatMap.1 hx
  exact h.sgs.may a ha x hxa).1
 have h2:=h.ok.fits
 have h3:=h.ok.room2
 have h4:=h.ok.count
 omega
theorem RunC.sureL (r:RunC d h s a b):Go.Proofs.YtdacanghbepjpaaGreatDoor.sureL d h.l 0=sureOf h.l s:=by
 obtain ⟨dr,f0,c⟩:=r.file
 exact f0.sureL 0 fun _ => rfl
theorem RunC.read (r:RunC d h s a b) {n m:Nat} (h1:firstOf h.l≤n) (h2:n≤sureOf h.l s) :
  readP d h (n:Int) (m:Int)=((((recs h.l).take (sureOf h.l s-firstOf h.l)).drop (n-firstOf h.l)).take m,(n:Int)+((((recs h.l).take (sureOf h.l s-firstOf h.l)).drop (n-firstOf h.l)).take m).length,0):=by
 unfold readP
 rw [if_neg (fun e => e r.runs),if_neg (by omega),r.sureL,if_neg (by omega),rd_law r.chain n _ m h1]
end
end Go.Proofs.YtdacanghbepjpaaGreatDoor

/- A host's log in memory: its segments' rows, its block, the disk below it. What becomes of a host's log by each act, and by a crash, plainly. No program in sight. A host's log: what each act comes to, and what stays sure, plainly. No program in sight. A host's log: an act, and the opening of a disk, come to this, plainly. No program in sight. A host's log: the opening of its disk, plainly. No program in sight. -/
import Derived.Test.YtdacanghbepjpaaGreatDoorM2
import Derived.Test.YtdacanghbepjpaaGreatDoorM3
import Derived.Test.YtdacanghbepjpaaGreatDoorM4
namespace Go.Proofs.YtdacanghbepjpaaGreatDoor
set_option linter.unusedSimpArgs false
set_option linter.unusedVariables false
set_option maxRecDepth 100000
open Go.RowKit Go.Maps
open Dsk
def spRow (x:Sp.Span):List Value:=[.int .i64 x.trace,.int .i64 x.id,.int .i64 x.parent,.string x.service,.string x.host,.int .i64 x.start,.int .i64 x.dur,.string x.note]
def spV (x:Sp.Span):Value:=.agg #[.int .i64 x.trace,.int .i64 x.id,.int .i64 x.parent,.string x.service,.string x.host,.int .i64 x.start,.int .i64 x.dur,.string x.note]
theorem spRow_len:∀ x,(spRow x).length=8:=fun _ => rfl
theorem spRow_one:∀ x,∀ u∈spRow x,u.oneCell'=true:=fun x u hu => by
 simp [spRow] at hu
 rcases hu with rfl | rfl | rfl | rfl | rfl | rfl | rfl | rfl <;> rfl
def OwnSp (w:World) (B:Nat) (v:Value) (l:List Sp.Span):Prop:=OwnRow spRow 8 47 w B v l
def RdSp (w:World) (v:Value) (l:List Sp.Span):Prop:=RdRow spRow 8 w v l
structure SegV where
 first:Nat
 sv:Value
 ev:Value
def segRow (s:SegV):List Value:=[.int .i64 s.first,s.sv,s.ev]
theorem segRow_len:∀ x,(segRow x).length=3:=fun _ => rfl
def segBlks (s:SegV):List Nat:=s.sv.ownBlock.toList++s.ev.ownBlock.toList
def blks (vs:List SegV):List Nat:=vs.flatMap segBlks
structure SegAt (B:Nat) (w:World) (s:SegV) (a:Sg):Prop where
 first:s.first=a.first
 spans:OwnSp w B s.sv a.spans
 ends:OwnI w B s.ev (sgEnds a.spans)
structure LogRows (B:Nat) (w:World) (lv:Value) (vs:List SegV) (l:List Sg):Prop where
 row:OwnRow segRow 3 132 w B lv vs
 len:vs.length=l.length
 each:∀ i (hi:i<vs.length) (hi':i<l.length),SegAt B w vs[i] l[i]
 apart:∀ i k (hi:i<vs.length) (hk:k<vs.length),i≠k→∀ b,b∈segBlks vs[i]→b ∉ segBlks vs[k]
def HIn (j:Nat) (lv:Value) (vs:List SegV) (k:Nat):Prop:=k=j∨lv.ownBlock=some k∨k∈blks vs
section
variable {w0 w w':World} {X H S:Nat→Prop} {B:Nat} {v lv:Value} {vs:List SegV} {l:List Sg} {d d':Dk} {j:Nat} {h h':Hl}
theorem mem_segBlks {s:SegV} {k:Nat}:k∈segBlks s↔s.sv.ownBlock=some k∨s.ev.ownBlock=some k:=by
 unfold segBlks
 rw [List.mem_append,Option.mem_toList,Option.mem_toList]
theorem mem_blks {k:Nat}:k∈blks vs↔∃ i,∃ hi:i<vs.length,vs[i].sv.ownBlock=some k∨vs[i].ev.ownBlock=some k:=by
 unfold blks
 rw [List.mem_flatMap]
 constructor
 · rintro ⟨s,hs,hk⟩
   obtain ⟨i,hi,rfl⟩:=List.mem_iff_getElem.1 hs
   exact ⟨i,hi,mem_segBlks.1 hk⟩
 · rintro ⟨i,hi,hk⟩
   exact ⟨_,List.getElem_mem hi,mem_segBlks.2 hk⟩
theorem SegAt.chg {s:SegV} {a:Sg} (h:SegAt B w s a) (x:Chg S w w') (hS:∀ k,k∈segBlks s→¬ S k):SegAt B w' s a :=
 ⟨h.first,OwnRow.chg h.spans x fun k hk => hS k (mem_segBlks.2 (.inl hk)),h.ends.chg x fun k hk => hS k (mem_segBlks.2 (.inr hk))⟩
theorem LogRows.chg (h:LogRows B w lv vs l) (x:Chg S w w') (hS:∀ k,lv.ownBlock=some k∨k∈blks vs→¬ S k):LogRows B w' lv vs l :=
 ⟨h.row.chg x fun k hk => hS k (.inl hk),h.len,fun i hi hi' => (h.each i hi hi').chg x fun k hk => hS k (.inr (mem_blks.2 ⟨i,hi,mem_segBlks.1 hk⟩)),h.apart⟩
theorem OwnI.lt' {v:Value} {l:List Int} (h:OwnI w B v l):∀ k,v.ownBlock=some k→B≤k∧k<w.heap.size:=World.ownsRow.lt h
theorem LogRows.lt (h:LogRows B w lv vs l):∀ k,lv.ownBlock=some k∨k∈blks vs→B≤k∧k<w.heap.size:=fun k hk => by
 rcases hk with hk | hk
 · exact h.row.lt k hk
 · obtain ⟨i,hi,hk⟩:=mem_blks.1 hk
   have hs:=h.each i hi (h.len ▸ hi)
   rcases hk with hk | hk
   · exact OwnRow.lt hs.spans k hk
   · exact hs.ends.lt' k hk
structure HS (w0:World) (X H:Nat→Prop) (w:World) (v:Value) (d:Dk) (j:Nat) (h:Hl):Prop where
 live:Live w0 X w v d
 mem:∃ lv vs,Blk w j 136 #[v,.int .i64 h.st,.bool h.lost,lv]∧LogRows w0.heap.size w lv vs h.l∧∀ k,HIn j lv vs k→H k
 sub:∀ k,H k→X k
 new:∀ k,H k→w0.heap.size≤k∧k<w.heap.size
theorem HS.chg (h0:HS w0 X H w v d j h) (x:Chg S w w') (hl:Live w0 X w' v d') (hS:∀ k,H k→¬ S k):HS w0 X H w' v d' j h:=by
 obtain ⟨live,⟨lv,vs,hb,hr,hi⟩,sub,new⟩:=h0
 exact ⟨hl,⟨lv,vs,hb.chg x (hS j (hi j (.inl rfl))),hr.chg x fun k hk => hS k (hi k (.inr hk)),hi⟩,sub,fun k hk => ⟨(new k hk).1,Nat.lt_of_lt_of_le (new k hk).2 x.size⟩⟩
theorem HS.below (h0:HS w0 X H w v d j h) (x:Below w.heap.size w w'):HS w0 X H w' v d j h:=h0.chg (S:=fun _ => False) (Chg.of_below x) (h0.live.keep x) fun _ _ e => e
theorem HS.turn (h0:HS w0 X H w v d j h) (hl:Live w0 X w' v d') (x:Keeps X w w'):HS w0 X H w' v d' j h:=h0.chg (show Chg (fun k => ¬ X k) w w' from x) hl fun k hk e => e (h0.sub k hk)
theorem HS.ptr (h0:HS w0 X H w v d j h):∃ bd,v=.pointer (some ⟨bd,0,none⟩):=h0.live.ptr
def HK (X H:Nat→Prop) (w w':World):Prop:=Chg (fun k => ¬ X k∨H k) w w'
theorem HK.below (x:Below w.heap.size w w'):HK X H w w':=Chg.of_below x
theorem HK.keeps (x:Keeps X w w'):HK X H w w':=Chg.mono x fun k _ e => .inl e
theorem HK.trans {w2:World} (x:HK X H w w2) (y:HK X H w2 w'):HK X H w w':=Chg.trans x y
def Plus (X N:Nat→Prop) (k:Nat):Prop:=X k∨N k
def NewIn (w w':World) (N:Nat→Prop):Prop:=∀ k,N k→w.heap.size≤k∧k<w'.heap.size
def HPost (w0:World) (X H:Nat→Prop) (w:World) (v:Value) (d':Dk) (j:Nat) (h':Hl) (w':World):Prop:=∃ N,NewIn w w' N∧HS w0 (Plus X N) (Plus H N) w' v d' j h'∧HK X H w w'
theorem HS.plus_none (h0:HS w0 X H w v d j h):HS w0 (Plus X fun _ => False) (Plus H fun _ => False) w v d j h:=by
 have e1:Plus X (fun _ => False)=X:=funext fun k => propext ⟨fun e => e.elim id False.elim,.inl⟩
 have e2:Plus H (fun _ => False)=H:=funext fun k => propext ⟨fun e => e.elim id False.elim,.inl⟩
 rw [e1,e2]
 exact h0
theorem HPost.same (h0:HS w0 X H w' v d' j h') (x:HK X H w w'):HPost w0 X H w v d' j h' w':=⟨fun _ => False,fun k e => e.elim,h0.plus_none,x⟩
end
end Go.Proofs.YtdacanghbepjpaaGreatDoor
namespace Go.Proofs.YtdacanghbepjpaaGreatDoor
set_option linter.unusedSimpArgs false
set_option linter.unusedVariables false
open Dsk
def lastT (l:List Sg):Str:=match l.getLast? with | none => [] | some a => sgT a.spans
theorem lastT_snoc (init:List Sg) (a:Sg):lastT (init++[a])=sgT a.spans:=by unfold lastT;rw [List.getLast?_append];rfl
theorem getLast_snoc (init:List Sg) (a:Sg):(init++[a]).getLast?=some a:=by rw [List.getLast?_append];rfl
theorem nextOf_snoc (init:List Sg) (a:Sg):nextOf (init++[a])=a.next:=by unfold nextOf;rw [getLast_snoc]
structure LSt (d:Dk) (l:List Sg) (t:Str) (s:Nat) (dr:Files):Prop where
 ok:Ok d
 files:LogD d.files l t s dr
 sgs:SgsOk l
 torn:Frm.nextAt t=none
 safe:s≤(lastT l++t).length
 dr:IsDr dr
 tail:t≠[]→s=(lastT l++t).length
def Kept (d d':Dk):Prop:=d'.off=d.off∧d'.starts=d.starts∧d'.room=d.room∧(d.fail=none→d'.fail=none)
def Downed (d d':Dk):Prop:=d'.off=true∧d'.starts=d.starts∧d'.room=d.room∧d'.fail=none
theorem Kept.refl (d:Dk):Kept d d:=⟨rfl,rfl,rfl,fun e => e⟩
theorem Kept.trans {a b c:Dk} (h:Kept a b) (k:Kept b c):Kept a c:=⟨k.1.trans h.1,k.2.1.trans h.2.1,k.2.2.1.trans h.2.2.1,fun e => k.2.2.2 (h.2.2.2 e)⟩
theorem Downed.kept {a b c:Dk} (h:Kept a b) (k:Downed b c):Downed a c:=⟨k.1,k.2.1.trans h.2.1,k.2.2.1.trans h.2.2.1,k.2.2.2⟩
def CutOf (l:List Sg) (s:Nat) (l':List Sg):Prop:=(l=[]∧l'=[])∨∃ init a k,l=init++[a]∧l'=init++[⟨a.first,a.spans.take k⟩]∧sureN a.spans s≤k∧k≤a.spans.length
theorem sgs_last {init:List Sg} {a:Sg} (h:SgsOk (init++[a])) (xs:List Sp.Span) (hx:∀ x∈xs,Sp.May x):SgsOk (init++[⟨a.first,xs⟩]) :=
 ⟨chained_last _ _ _ h.chain rfl,fun b hb x hxb => by
  rcases List.mem_append.1 hb with hb | hb
  · exact h.may b (List.mem_append_left _ hb) x hxb
  · obtain rfl:b=⟨a.first,xs⟩:=by simpa using hb
    exact hx x hxb⟩
theorem LSt.crashed {d:Dk} {l:List Sg} {t:Str} {s:Nat} {dr:Files} (h:LSt d l t s dr) (keep:List Int) :
  ∃ l' t' dr',LSt (d.crashed keep) l' t' (lastT l'++t').length dr'∧CutOf l s l'∧Cuts dr dr'∧(t≠[]→l'=l∧t'=t)∧(s=(lastT l++t).length→l'=l∧t'=t):=by
 obtain ⟨ok,files,sgs,torn,safe,hdr,tail⟩:=h
 have ok':=ok.crashed keep
 rcases files with ⟨rfl,rfl,hp⟩ | ⟨init,a,rfl,hp⟩
 · obtain ⟨dr',h2,h3⟩:=crashed_none keep ok.rising hp
   exact ⟨[],[],dr',⟨ok',.inl ⟨rfl,rfl,h3⟩,sgs,torn,Nat.le_refl _,h2.isDr hdr,fun e => absurd rfl e⟩,.inl ⟨rfl,rfl⟩,h2,fun e => absurd rfl e,fun _ => ⟨rfl,rfl⟩⟩
 · rw [lastT_snoc] at safe tail
   obtain ⟨kk,dr',h2,h3⟩:=crashed_perm keep ok.rising hp
   have h1:=h2.isDr hdr
   have hmay:∀ x∈a.spans,Sp.May x:=sgs.may a (by simp)
   by_cases hs:s=(sgT a.spans++t).length
   · rw [hs,cutF_safe] at h3
     refine ⟨init++[a],t,dr',⟨ok',.inr ⟨init,a,rfl,by rw [lastT_snoc];exact h3⟩,sgs,torn,by rw [lastT_snoc];exact Nat.le_refl _,h1,fun _ => rfl⟩,.inr ⟨init,a,a.spans.length,rfl,by rw [List.take_length],sureN_le _ _,Nat.le_refl _⟩,h2,fun _ => ⟨rfl,rfl⟩,fun _ => ⟨rfl,rfl⟩⟩
   · have ht:t=[]:=Classical.byContradiction fun e => hs (tail e)
     subst ht
     rw [List.append_nil] at hs safe h3
     obtain ⟨n,n1,n2,n3⟩:=cutF_take safe kk
     rw [n3] at h3
     obtain ⟨k,t',k1,k2,k3,k4⟩:=sg_cut a.spans n hmay n2
     have hn:n=(sgT (a.spans.take k)++t').length:=by rw [← k2,List.length_take];omega
     have hsure:sureN a.spans s≤k:=k4 _ (sureN_le _ _) (Nat.le_trans (sureN_spec hmay s).1 n1)
     refine ⟨init++[⟨a.first,a.spans.take k⟩],t',dr',⟨ok',.inr ⟨init,_,rfl,?_⟩,sgs_last sgs _ fun x hx => hmay x (List.mem_of_mem_take hx),k3,Nat.le_refl _,h1,fun _ => rfl⟩,.inr ⟨init,a,k,rfl,rfl,hsure,k1⟩,h2,fun e => absurd rfl e,fun e => absurd ?_ hs⟩
     · rw [lastT_snoc]
       unfold lastF
       rw [k2,hn] at h3
       exact h3
     · rw [lastT_snoc,List.append_nil] at e
       exact e
theorem LSt.get_last {d:Dk} {init:List Sg} {a:Sg} {t:Str} {s:Nat} {dr:Files} (h:LSt d (init++[a]) t s dr):get d.files (ln a.first)=some ⟨sgT a.spans++t,s⟩:=by
 rcases h.files with ⟨e,_⟩ | ⟨i2,a2,e,hp⟩
 · simp at e
 · obtain ⟨rfl,e2⟩:=List.append_inj' e rfl
   obtain rfl:a=a2:=by simpa using e2
   exact (put_perm_old (g:=⟨[],0⟩) h.ok.rising hp).2.1
theorem LSt.perm {d:Dk} {init:List Sg} {a:Sg} {t:Str} {s:Nat} {dr:Files} (h:LSt d (init++[a]) t s dr):d.files.Perm (init.map full++lastF a t s::dr):=by
 rcases h.files with ⟨e,_⟩ | ⟨i2,a2,e,hp⟩
 · simp at e
 · obtain ⟨rfl,e2⟩:=List.append_inj' e rfl
   obtain rfl:a=a2:=by simpa using e2
   exact hp
theorem LSt.get_full {d:Dk} {init:List Sg} {a b:Sg} {t:Str} {s:Nat} {dr:Files} (h:LSt d (init++[a]) t s dr) (hb:b∈init):get d.files (ln b.first)=some ⟨sgT b.spans,(sgT b.spans).length⟩ :=
 get_of_mem (rising_apart h.ok.rising) (h.perm.mem_iff.2 (List.mem_append_left _ (List.mem_map.2 ⟨b,hb,rfl⟩)))
theorem LSt.get_new {d:Dk} {l:List Sg} {t:Str} {s:Nat} {dr:Files} (h:LSt d l t s dr) (n:Nat) (hn:∀ a∈l,a.first≠n):get d.files (ln n)=none:=by
 have hd:∀ p∈dr,p.1≠ln n:=fun p hp => h.dr.ne p hp n
 rcases h.files with ⟨rfl,_,hp⟩ | ⟨init,a,rfl,hp⟩
 · exact get_none_of hp hd
 · refine get_none_of hp fun p hp => ?_
   rcases List.mem_append.1 hp with hp | hp
   · obtain ⟨b,hb,rfl⟩:=List.mem_map.1 hp
     exact fun e => hn b (List.mem_append_left _ hb) (ln_inj e)
   · rcases List.mem_cons.1 hp with rfl | hp
     · exact fun e => hn a (by simp) (ln_inj e)
     · exact hd p hp
theorem LSt.head {d d':Dk} {l:List Sg} {t:Str} {s:Nat} {dr:Files} (h:LSt d l t s dr) (ok:Ok d') (e:d'.files=d.files):LSt d' l t s dr:=⟨ok,by rw [e];exact h.files,h.sgs,h.torn,h.safe,h.dr,h.tail⟩
theorem nextOf_above {l:List Sg} (h:Chained l):(∀ a∈l,a.first≤nextOf l)∧(l≠[]→(∀ a,l.getLast?=some a→a.spans≠[])→∀ a∈l,a.first<nextOf l):=by
 rcases List.eq_nil_or_concat l with rfl | ⟨init,a,rfl⟩
 · exact ⟨fun _ h => (by cases h),fun e => absurd rfl e⟩
 · rw [List.concat_eq_append] at h ⊢
   rw [nextOf_snoc]
   have hp:=chained_rise _ h
   have hl:∀ b∈init,b.first<a.first:=fun b hb => ((List.pairwise_append.1 hp).2.2 b hb a (by simp)).1
   have hn:a.next=a.first+a.spans.length:=rfl
   refine ⟨fun b hb => ?_,fun _ hne b hb => ?_⟩
   · rcases List.mem_append.1 hb with hb | hb
     · have:=hl b hb;omega
     · obtain rfl:b=a:=by simpa using hb
       omega
   · have:=List.length_pos_iff.2 (hne a (getLast_snoc _ _))
     rcases List.mem_append.1 hb with hb | hb
     · have:=hl b hb;omega
     · obtain rfl:b=a:=by simpa using hb
       omega
theorem LSt.change {d0 d:Dk} {m:Files} {l lc:List Sg} {s sc:Nat} {t tc:Str} {dr drc:Files} (hd:d0.off=d.off∧d0.starts=d.starts∧d0.room=d.room∧d0.fail=d.fail) (hnew:LSt { d with files:=m } l t s dr) (hcr:LSt d lc tc sc drc) :
  (∃ d',d.change m=(0,d')∧Kept d0 d'∧LSt d' l t s dr) ∨
  (∃ d',d.change m=(51,d')∧d0.fail≠none∧Downed d0 d'∧∃ l' t' dr',LSt d' l' t' (lastT l'++t').length dr'∧CutOf lc sc l'∧Cuts drc dr'∧(tc≠[]→l'=lc∧t'=tc)∧(sc=(lastT lc++tc).length→l'=lc∧t'=tc)):=by
 obtain ⟨e1,e2,e3,e4⟩:=hd
 rcases change_cases d m with ⟨f,h1,h2⟩ | ⟨h1,h2⟩
 · refine .inl ⟨_,h1,⟨e1.symm,e2.symm,e3.symm,fun e => h2 (e4 ▸ e)⟩,hnew.head ?_ rfl⟩
   have:=hnew.ok
   exact ⟨this.room1,this.room2,this.rising,this.named,this.safe,this.count,this.fits,this.starts,this.keep⟩
 · refine .inr ⟨_,h1,by rw [e4];exact h2,⟨rfl,e2.symm,e3.symm,rfl⟩,?_⟩
   exact hcr.crashed d.keep
theorem LSt.append_last {d:Dk} {init:List Sg} {a:Sg} {s:Nat} {dr:Files} (h:LSt d (init++[a]) [] s dr) (hoff:d.off=false) (ha:a.first≤999999999) (x:Sp.Span) (hx:Sp.May x) :
  (d.append (ln a.first) (frm x)=(50,d)∧d.room<total d.files+(frm x).length) ∨
  (∃ d',d.append (ln a.first) (frm x)=(0,d')∧Kept d d'∧LSt d' (init++[⟨a.first,a.spans++[x]⟩]) [] s dr) ∨
  (∃ d',d.append (ln a.first) (frm x)=(51,d')∧d.fail≠none∧Downed d d'∧∃ l' t' dr',LSt d' l' t' (lastT l'++t').length dr'∧Cuts dr dr'∧CutOf (init++[⟨a.first,a.spans++[x]⟩]) s l'):=by
 have hg:=h.get_last
 rw [List.append_nil] at hg
 have hn:=ln_named ha
 have hap:d.append (ln a.first) (frm x)=if (get d.files (ln a.first)=none∧1024≤d.files.length)∨d.room<total d.files+(frm x).length then (50,d) else
   (({ d with files:=put d.files (ln a.first) ⟨((get d.files (ln a.first)).getD ⟨[],0⟩).data++frm x,((get d.files (ln a.first)).getD ⟨[],0⟩).safe⟩ }:Dk).change (put d.files (ln a.first) ⟨((get d.files (ln a.first)).getD ⟨[],0⟩).data++frm x,((get d.files (ln a.first)).getD ⟨[],0⟩).safe⟩)):=by
  unfold Dk.append
  rw [hoff,if_neg (by decide),if_neg (fun e => e hn)]
 by_cases hc:(get d.files (ln a.first)=none∧1024≤d.files.length)∨d.room<total d.files+(frm x).length
 · refine .inl ⟨by rw [hap,if_pos hc],?_⟩
   rcases hc with ⟨e,_⟩ | e
   · rw [hg] at e;cases e
   · exact e
 · refine .inr ?_
   have hf:=append_facts h.ok (s:=frm x) hn hc rfl
   rw [hap,if_neg hc]
   simp only [hg,Option.getD_some] at hf ⊢
   have hp:=(put_perm_old (g:=⟨sgT a.spans++frm x,s⟩) h.ok.rising h.perm).1
   obtain ⟨m,hm⟩:∃ m,m=put d.files (ln a.first) ⟨sgT a.spans++frm x,s⟩:=⟨_,rfl⟩
   rw [← hm] at hf hp ⊢
   have hs:=h.safe
   rw [lastT_snoc,List.append_nil] at hs
   have hnew:LSt { d with files:=m } (init++[⟨a.first,a.spans++[x]⟩]) [] s dr:=by
    refine ⟨h.ok.files hf.1 hf.2.1 hf.2.2.1 hf.2.2.2,.inr ⟨init,_,rfl,?_⟩,sgs_last h.sgs _ (fun y hy => ?_),fnil_none,?_,h.dr,fun e => absurd rfl e⟩
    · unfold lastF
      simp only [sgT_snoc,List.append_nil]
      exact hp
    · rcases List.mem_append.1 hy with hy | hy
      · exact h.sgs.may a (by simp) y hy
      · obtain rfl:y=x:=by simpa using hy
        exact hx
    · rw [lastT_snoc,List.append_nil,sgT_snoc,List.length_append];omega
   rcases LSt.change (d0:=d) (d:={ d with files:=m }) (m:=m) ⟨rfl,rfl,rfl,rfl⟩ hnew hnew with h1 | ⟨d',h1,h2,h3,l',t',dr',h4,h5,h6,_⟩
   · exact .inl h1
   · exact .inr ⟨d',h1,h2,h3,l',t',dr',h4,h6,h5⟩
theorem LSt.append_new {d:Dk} {l:List Sg} {s:Nat} {dr:Files} (h:LSt d l [] s dr) (hoff:d.off=false) (hall:s=(lastT l).length) (hne:∀ a,l.getLast?=some a→a.spans≠[]) (hb:nextOf l≤999999999) (xs:List Sp.Span) (hx:∀ x∈xs,Sp.May x) :
  (d.append (ln (nextOf l)) (sgT xs)=(50,d)∧(1024≤d.files.length∨d.room<total d.files+(sgT xs).length)) ∨
  (∃ d',d.append (ln (nextOf l)) (sgT xs)=(0,d')∧Kept d d'∧LSt d' (l++[⟨nextOf l,xs⟩]) [] 0 dr) ∨
  (∃ d',d.append (ln (nextOf l)) (sgT xs)=(51,d')∧d.fail≠none∧Downed d d'∧∃ l' t' dr',LSt d' l' t' (lastT l'++t').length dr'∧Cuts dr dr'∧CutOf (l++[⟨nextOf l,xs⟩]) 0 l'):=by
 have hnone:get d.files (ln (nextOf l))=none:=by
  refine h.get_new _ fun a ha => ?_
  have:=(nextOf_above h.sgs.chain).2 (fun e => by rw [e] at ha;cases ha) hne a ha
  omega
 have hn:=ln_named hb
 have hap:d.append (ln (nextOf l)) (sgT xs)=if (get d.files (ln (nextOf l))=none∧1024≤d.files.length)∨d.room<total d.files+(sgT xs).length then (50,d) else
   (({ d with files:=put d.files (ln (nextOf l)) ⟨((get d.files (ln (nextOf l))).getD ⟨[],0⟩).data++sgT xs,((get d.files (ln (nextOf l))).getD ⟨[],0⟩).safe⟩ }:Dk).change (put d.files (ln (nextOf l)) ⟨((get d.files (ln (nextOf l))).getD ⟨[],0⟩).data++sgT xs,((get d.files (ln (nextOf l))).getD ⟨[],0⟩).safe⟩)):=by
  unfold Dk.append
  rw [hoff,if_neg (by decide),if_neg (fun e => e hn)]
 by_cases hc:(get d.files (ln (nextOf l))=none∧1024≤d.files.length)∨d.room<total d.files+(sgT xs).length
 · refine .inl ⟨by rw [hap,if_pos hc],?_⟩
   rcases hc with ⟨_,e⟩ | e
   · exact .inl e
   · exact .inr e
 · refine .inr ?_
   have hf:=append_facts h.ok (s:=sgT xs) hn hc rfl
   rw [hap,if_neg hc]
   simp only [hnone,Option.getD_none,List.nil_append] at hf ⊢
   have hp:=put_perm_new (g:=⟨sgT xs,0⟩) hnone
   obtain ⟨m,hm⟩:∃ m,m=put d.files (ln (nextOf l)) ⟨sgT xs,0⟩:=⟨_,rfl⟩
   rw [← hm] at hf hp ⊢
   have hfl:d.files.Perm (l.map full++dr):=by
    rcases h.files with ⟨rfl,_,hp2⟩ | ⟨init,a,rfl,hp2⟩
    · exact hp2
    · rw [lastT_snoc] at hall
      rw [List.map_append,List.append_assoc]
      have e:lastF a [] s=full a:=by unfold lastF full;rw [List.append_nil,hall]
      rw [e] at hp2
      exact hp2
   have hnew:LSt { d with files:=m } (l++[⟨nextOf l,xs⟩]) [] 0 dr:=by
    refine ⟨h.ok.files hf.1 hf.2.1 hf.2.2.1 hf.2.2.2,.inr ⟨l,_,rfl,?_⟩,⟨?_,fun b hb y hy => ?_⟩,fnil_none,Nat.zero_le _,h.dr,fun e => absurd rfl e⟩
    · unfold lastF
      simp only [List.append_nil]
      exact (hp.trans (hfl.cons _)).trans List.perm_middle.symm
    · rcases List.eq_nil_or_concat l with rfl | ⟨init,a,rfl⟩
      · trivial
      · rw [List.concat_eq_append] at *
        rw [List.append_assoc]
        refine chained_snoc _ _ _ h.sgs.chain (hne a (getLast_snoc _ _)) ?_
        rw [nextOf_snoc]
    · rcases List.mem_append.1 hb with hb | hb
      · exact h.sgs.may b hb y hy
      · obtain rfl:b=⟨nextOf l,xs⟩:=by simpa using hb
        exact hx y hy
   rcases LSt.change (d0:=d) (d:={ d with files:=m }) (m:=m) ⟨rfl,rfl,rfl,rfl⟩ hnew hnew with h1 | ⟨d',h1,h2,h3,l',t',dr',h4,h5,h6,_⟩
   · exact .inl h1
   · exact .inr ⟨d',h1,h2,h3,l',t',dr',h4,h6,h5⟩
theorem LSt.sync_last {d:Dk} {init:List Sg} {a:Sg} {s:Nat} {dr:Files} (h:LSt d (init++[a]) [] s dr) (hoff:d.off=false) :
  (∃ d',d.sync (ln a.first)=(0,d')∧Kept d d'∧LSt d' (init++[a]) [] (sgT a.spans).length dr) ∨
  (∃ d',d.sync (ln a.first)=(51,d')∧d.fail≠none∧Downed d d'∧∃ l' t' dr',LSt d' l' t' (lastT l'++t').length dr'∧Cuts dr dr'∧CutOf (init++[a]) s l'):=by
 have hg:=h.get_last
 rw [List.append_nil] at hg
 have hok:=h.ok.sync (ln a.first)
 have hy:d.sync (ln a.first)=d.change (put d.files (ln a.first) ⟨sgT a.spans,(sgT a.spans).length⟩):=by
  unfold Dk.sync
  rw [hoff,if_neg (by decide),hg]
 have hp:=(put_perm_old (g:=⟨sgT a.spans,(sgT a.spans).length⟩) h.ok.rising h.perm).1
 rw [hy]
 obtain ⟨m,hm⟩:∃ m,m=put d.files (ln a.first) ⟨sgT a.spans,(sgT a.spans).length⟩:=⟨_,rfl⟩
 have hap:=rising_apart h.ok.rising
 have hnew:LSt { d with files:=m } (init++[a]) [] (sgT a.spans).length dr:=by
  refine ⟨?_,.inr ⟨init,_,rfl,?_⟩,h.sgs,fnil_none,?_,h.dr,fun e => absurd rfl e⟩
  · rw [hm]
    refine h.ok.files (rising_put h.ok.rising _ _) (fun p hp => ?_) ?_ ?_
    · rcases mem_put.1 hp with rfl | ⟨hp,_⟩
      · exact ⟨h.ok.named (ln a.first,⟨sgT a.spans,s⟩) (get_mem hg),Nat.le_refl _⟩
      · exact ⟨h.ok.named p hp,h.ok.safe p hp⟩
    · rw [put_length];have:=del_length hap hg;have:=h.ok.count;omega
    · rw [put_total];have:=del_total hap hg;have:=h.ok.fits;simp only at *;omega
  · unfold lastF
    simp only [List.append_nil]
    rw [hm]
    exact hp
  · rw [lastT_snoc,List.append_nil];exact Nat.le_refl _
 rw [← hm]
 rcases LSt.change (d0:=d) (d:=d) (m:=m) ⟨rfl,rfl,rfl,rfl⟩ hnew h with h1 | ⟨d',h1,h2,h3,l',t',dr',h4,h5,h6,_⟩
 · exact .inl h1
 · exact .inr ⟨d',h1,h2,h3,l',t',dr',h4,h6,h5⟩
end Go.Proofs.YtdacanghbepjpaaGreatDoor
namespace Go.Proofs.YtdacanghbepjpaaGreatDoor
set_option linter.unusedSimpArgs false
set_option linter.unusedVariables false
open Dsk
/-! ### records by their numbers -/
theorem recs_snoc (init:List Sg) (a:Sg):recs (init++[a])=recs init++a.spans:=by unfold recs;rw [List.flatMap_append];simp
theorem recs_cons (a:Sg) (l:List Sg):recs (a::l)=a.spans++recs l:=rfl
theorem first_recs:∀ (init:List Sg) (a:Sg),Chained (init++[a])→a.first=firstOf (init++[a])+(recs init).length
 | [],a,_ => by simp [firstOf,recs]
 | [c],a,h => by
  have:=h.2.1
  rw [this]
  simp [firstOf,recs,Sg.next]
 | c::d::r,a,h => by
  have ih:=first_recs (d::r) a h.2.2
  have h2:=h.2.1
  have e1:firstOf (d::r++[a])=d.first:=rfl
  have e2:firstOf (c::d::r++[a])=c.first:=rfl
  have e3:c.next=c.first+c.spans.length:=rfl
  rw [recs_cons,List.length_append,e2]
  omega
def recAt (l:List Sg) (n:Nat):Option Sp.Span:=if firstOf l≤n then (recs l)[n-firstOf l]? else none
def sureOf (l:List Sg) (s:Nat):Nat:=match l.getLast? with | none => 0 | some a => a.first+sureN a.spans s
theorem sureOf_snoc (init:List Sg) (a:Sg) (s:Nat):sureOf (init++[a]) s=a.first+sureN a.spans s:=by unfold sureOf;rw [getLast_snoc]
theorem nextOf_recs {l:List Sg} (h:Chained l):nextOf l=firstOf l+(recs l).length:=by
 rcases List.eq_nil_or_concat l with rfl | ⟨init,a,rfl⟩
 · rfl
 · rw [List.concat_eq_append] at h ⊢
   rw [nextOf_snoc,recs_snoc,List.length_append]
   have:=first_recs init a h
   unfold Sg.next
   omega
theorem sureOf_le (l:List Sg) (s:Nat):sureOf l s≤nextOf l:=by
 rcases List.eq_nil_or_concat l with rfl | ⟨init,a,rfl⟩
 · exact Nat.le_refl _
 · rw [List.concat_eq_append,sureOf_snoc,nextOf_snoc]
   have:=sureN_le a.spans s
   unfold Sg.next
   omega
theorem first_le_sure {l:List Sg} (h:Chained l) (s:Nat):firstOf l≤sureOf l s:=by
 rcases List.eq_nil_or_concat l with rfl | ⟨init,a,rfl⟩
 · exact Nat.zero_le _
 · rw [List.concat_eq_append] at h ⊢
   rw [sureOf_snoc]
   have:=first_recs init a h
   omega
structure KR (l:List Sg) (s:Nat) (l':List Sg) (s':Nat):Prop where
 first:firstOf l≤firstOf l'
 sure:sureOf l s≤sureOf l' s'
 at_:∀ n,firstOf l'≤n→n<sureOf l s→recAt l' n=recAt l n
theorem KR.refl (l:List Sg) (s:Nat):KR l s l s:=⟨Nat.le_refl _,Nat.le_refl _,fun _ _ _ => rfl⟩
theorem KR.trans {a b c:List Sg} {s t u:Nat} (h:KR a s b t) (k:KR b t c u):KR a s c u :=
 ⟨Nat.le_trans h.first k.first,Nat.le_trans h.sure k.sure,fun n h1 h2 => (k.at_ n h1 (Nat.lt_of_lt_of_le h2 h.sure)).trans (h.at_ n (Nat.le_trans k.first h1) h2)⟩
theorem KR.nil (l':List Sg) (s s':Nat):KR [] s l' s':=⟨Nat.zero_le _,Nat.zero_le _,fun n _ h => absurd h (Nat.not_lt_zero _)⟩
theorem KR.last {init:List Sg} {a:Sg} {s s':Nat} {xs:List Sp.Span} (h:Chained (init++[a])) (hk:sureN a.spans s≤sureN xs s') (ht:xs.take (sureN a.spans s)=a.spans.take (sureN a.spans s)) :
  KR (init++[a]) s (init++[⟨a.first,xs⟩]) s':=by
 have hf:firstOf (init++[a])=firstOf (init++[⟨a.first,xs⟩]):=by cases init <;> rfl
 have h1:=first_recs init a h
 refine ⟨Nat.le_of_eq hf,by rw [sureOf_snoc,sureOf_snoc];simp only;omega,fun n hn hlt => ?_⟩
 rw [sureOf_snoc] at hlt
 unfold recAt
 rw [← hf] at hn ⊢
 rw [if_pos hn,if_pos hn,recs_snoc,recs_snoc]
 by_cases hi:n-firstOf (init++[a])<(recs init).length
 · rw [List.getElem?_append_left hi,List.getElem?_append_left hi]
 · rw [List.getElem?_append_right (by omega),List.getElem?_append_right (by omega)]
   have e:=congrArg (fun l => l[n-firstOf (init++[a])-(recs init).length]?) ht
   simp only [List.getElem?_take] at e
   rw [if_pos (by omega),if_pos (by omega)] at e
   exact e
theorem take_take_snoc (l:List Sp.Span) (x:Sp.Span) (s:Nat):(l++[x]).take (sureN l s)=l.take (sureN l s):=List.take_append_of_le_length (sureN_le l s)
theorem sureN_snoc {l:List Sp.Span} (hm:∀ x∈l,Sp.May x) {x:Sp.Span} (hx:Sp.May x) {s:Nat} (hs:s≤(sgT l).length):sureN (l++[x]) s=sureN l s:=by
 have h1:=sureN_spec hm s
 have h2:=sureN_le l s
 have h3:=frm_len hx
 refine sureN_eq (by rw [List.length_append];omega) ?_ fun hlt => ?_
 · rw [List.take_append_of_le_length h2];exact h1.1
 · by_cases hk:sureN l s<l.length
   · rw [List.take_append_of_le_length (by omega)];exact h1.2 hk
   · rw [List.take_of_length_le (by rw [List.length_append,List.length_singleton];omega),sgT_snoc,List.length_append]
     omega
theorem sureN_take {l:List Sp.Span} (hm:∀ x∈l,Sp.May x) {k:Nat} (hk:k≤l.length) (t:Str):sureN (l.take k) (sgT (l.take k)++t).length=k:=by
 rw [sureN_all _ _ (by rw [List.length_append];omega),List.length_take]
 omega
theorem sureN_mono (l:List Sp.Span) {s t:Nat} (h:s≤t):sureN l s≤sureN l t:=by
 unfold sureN
 apply List.countP_mono_left
 intro x _ hx
 exact decide_eq_true (by have:=of_decide_eq_true hx;omega)
theorem KR.sync {init:List Sg} {a:Sg} {s s':Nat} (h:Chained (init++[a])) (hs:s≤s'):KR (init++[a]) s (init++[a]) s':=KR.last (xs:=a.spans) h (sureN_mono _ hs) rfl
theorem CutOf.kr {l l':List Sg} {s:Nat} (h:CutOf l s l') (hc:SgsOk l) (t:Str):KR l s l' (lastT l'++t).length:=by
 rcases h with ⟨rfl,rfl⟩ | ⟨init,a,k,rfl,rfl,h1,h2⟩
 · exact KR.nil _ _ _
 · have hm:∀ x∈a.spans,Sp.May x:=hc.may a (by simp)
   rw [lastT_snoc]
   refine KR.last hc.chain (by rw [sureN_take hm h2];exact h1) ?_
   rw [List.take_take,Nat.min_eq_left h1]
theorem CutOf.first {l l':List Sg} {s:Nat} (h:CutOf l s l'):firstOf l'=firstOf l:=by
 rcases h with ⟨rfl,rfl⟩ | ⟨init,a,k,rfl,rfl,_⟩
 · rfl
 · cases init <;> rfl
theorem first_snoc {l:List Sg} (b:Sg) (h:l=[]→b.first=0):firstOf (l++[b])=firstOf l:=by
 cases l with
 | nil => exact h rfl
 | cons a l => rfl
theorem KR.new {l:List Sg} {s:Nat} (h:Chained l) (hs:s=(lastT l).length) (xs:List Sp.Span) (hb:Chained (l++[⟨nextOf l,xs⟩])):KR l s (l++[⟨nextOf l,xs⟩]) 0:=by
 rcases List.eq_nil_or_concat l with rfl | ⟨init,a,rfl⟩
 · exact KR.nil _ _ _
 · rw [List.concat_eq_append] at *
   have hn:=nextOf_recs h
   have hf:firstOf (init++[a]++[⟨nextOf (init++[a]),xs⟩])=firstOf (init++[a]):=by cases init <;> rfl
   have hsl:=sureOf_le (init++[a]) s
   refine ⟨Nat.le_of_eq hf.symm,?_,fun n h1 h2 => ?_⟩
   · rw [sureOf_snoc (init++[a])];show _≤nextOf (init++[a])+_;omega
   · unfold recAt
     rw [hf] at h1 ⊢
     rw [if_pos h1,if_pos h1,recs_snoc (init++[a]),List.getElem?_append_left (by omega)]
theorem KR.drop {a:Sg} {r:List Sg} (h:Chained (a::r)) (hr:r≠[]) (s:Nat):KR (a::r) s r s:=by
 cases r with
 | nil => exact absurd rfl hr
 | cons b r =>
  have h2:=h.2.1
  have hs:sureOf (a::b::r) s=sureOf (b::r) s:=rfl
  refine ⟨?_,Nat.le_of_eq hs,fun n h1 h3 => ?_⟩
  · show a.first≤b.first
    rw [h2];unfold Sg.next;omega
  · have h4:firstOf (a::b::r)=a.first:=rfl
    have h5:firstOf (b::r)=b.first:=rfl
    unfold recAt
    rw [h4,h5]
    rw [h5] at h1
    have h6:b.first=a.first+a.spans.length:=h2
    rw [if_pos h1,if_pos (by omega),recs_cons a,List.getElem?_append_right (by omega)]
    congr 1
    omega
end Go.Proofs.YtdacanghbepjpaaGreatDoor
namespace Go.Proofs.YtdacanghbepjpaaGreatDoor
set_option linter.unusedSimpArgs false
set_option linter.unusedVariables false
open Dsk
def base (l:List Sg) (t:Str) (s:Nat):Files:=match l.getLast? with | none => [] | some a => l.dropLast.map full++[lastF a t s]
theorem base_snoc (init:List Sg) (a:Sg) (t:Str) (s:Nat):base (init++[a]) t s=init.map full++[lastF a t s]:=by unfold base;rw [getLast_snoc,List.dropLast_concat]
theorem LogD.perm {fs:Files} {l:List Sg} {t:Str} {s:Nat} {dr:Files} (h:LogD fs l t s dr):fs.Perm (base l t s++dr):=by
 rcases h with ⟨rfl,_,h⟩ | ⟨init,a,rfl,h⟩
 · exact h
 · rw [base_snoc,List.append_assoc];exact h
theorem LogD.of {fs fs':Files} {l:List Sg} {t:Str} {s:Nat} {dr dr':Files} (h:LogD fs l t s dr) (k:fs'.Perm (base l t s++dr')):LogD fs' l t s dr':=by
 rcases h with ⟨rfl,h1,h⟩ | ⟨init,a,rfl,h⟩
 · exact .inl ⟨rfl,h1,k⟩
 · rw [base_snoc,List.append_assoc] at k;exact .inr ⟨init,a,rfl,k⟩
theorem total_append (a b:Files):total (a++b)=total a+total b:=by unfold total;rw [List.map_append,List.sum_append]
theorem total_full (l:List Sg):total (l.map full)=(sgT (recs l)).length:=by
 induction l with
 | nil => rfl
 | cons a l ih =>
  rw [List.map_cons,total_cons,ih,recs_cons,sgT_append,List.length_append]
  rfl
theorem LSt.total {d:Dk} {l:List Sg} {t:Str} {s:Nat} {dr:Files} (h:LSt d l t s dr):total d.files=(sgT (recs l)).length+t.length+total dr∧d.files.length=l.length+dr.length:=by
 have hp:=h.files.perm
 rw [total_perm hp,hp.length_eq,total_append,List.length_append]
 rcases h.files with ⟨rfl,rfl,_⟩ | ⟨init,a,rfl,_⟩
 · exact ⟨by simp [base,recs,sgT,Dsk.total],by simp [base]⟩
 · rw [base_snoc,total_append,total_full,recs_snoc,sgT_append]
   refine ⟨?_,by simp⟩
   simp [Dsk.total,lastF]
   omega
def pushed (l:List Sg) (x:Sp.Span):List Sg:=match l.getLast? with
 | none => [⟨0,[x]⟩]
 | some a => if a.spans.length<16 then pushL l x else l++[⟨a.next,[x]⟩]
theorem recs_pushL {l:List Sg} (h:l≠[]) (x:Sp.Span):recs (pushL l x)=recs l++[x]:=by
 rcases List.eq_nil_or_concat l with rfl | ⟨init,a,rfl⟩
 · exact absurd rfl h
 · rw [List.concat_eq_append,pushL_snoc,recs_snoc,recs_snoc,List.append_assoc]
theorem recs_pushed (l:List Sg) (x:Sp.Span):recs (pushed l x)=recs l++[x]:=by
 unfold pushed
 rcases List.eq_nil_or_concat l with rfl | ⟨init,a,rfl⟩
 · rfl
 · rw [List.concat_eq_append,getLast_snoc]
   simp only
   split
   · exact recs_pushL (by simp) x
   · rw [recs_snoc]
theorem first_pushed (l:List Sg) (x:Sp.Span):firstOf (pushed l x)=firstOf l:=by
 unfold pushed
 rcases List.eq_nil_or_concat l with rfl | ⟨init,a,rfl⟩
 · rfl
 · rw [List.concat_eq_append,getLast_snoc]
   simp only
   split
   · rw [pushL_snoc];cases init <;> rfl
   · cases init <;> rfl
def NoRoom (d:Dk) (l:List Sg) (dr:Files):Prop:=1024≤l.length+dr.length∨d.room<(sgT (recs l)).length+total dr+120
def Fell (d d':Dk) (l:List Sg) (s:Nat) (dr:Files) (F:Nat):Prop:=d.fail≠none∧Downed d d'∧∃ l' t' dr',LSt d' l' t' (lastT l'++t').length dr'∧(Cuts dr dr'∧firstOf l'≤F)∧KR l s l' (lastT l'++t').length
theorem Fell.kept {a b c:Dk} {l:List Sg} {s s':Nat} {l2:List Sg} {dr:Files} {F:Nat} (h:Kept a b) (k:KR l s l2 s') (f:Fell b c l2 s' dr F):Fell a c l s dr F:=by
 obtain ⟨f1,f2,l',t',dr',f3,f5,f4⟩:=f
 exact ⟨fun e => f1 (h.2.2.2 e),f2.kept h,l',t',dr',f3,f5,k.trans f4⟩
theorem sgT_len_le {xs:List Sp.Span} (hx:∀ x∈xs,Sp.May x) (h1:xs.length≤1):(sgT xs).length≤120:=by have:=(sgT_len xs hx).2;omega
theorem begin_new {d:Dk} {l:List Sg} {s:Nat} {st:Int} {dr:Files} (h:LSt d l [] s dr) (hoff:d.off=false) (hall:s=(lastT l).length) (hne:∀ a,l.getLast?=some a→a.spans≠[]) (hb:nextOf l≤999999999) (xs:List Sp.Span) (hx:∀ x∈xs,Sp.May x) (h1:xs.length≤1) {P:Int×Hl×Dk}
  (hP:P=(let z:=d.append (ln (nextOf l)) (sgT xs)
   if z.1≠0 then (z.1,(⟨st,false,l⟩:Hl).told z.1,z.2) else (0,{ (⟨st,false,l⟩:Hl) with l:=l++[⟨nextOf l,[]⟩] },z.2))) :
  (P=(50,⟨st,false,l⟩,d)∧NoRoom d l dr) ∨
  (∃ d',P=(0,⟨st,false,l++[⟨nextOf l,[]⟩]⟩,d')∧Kept d d'∧LSt d' (l++[⟨nextOf l,xs⟩]) [] 0 dr∧KR l s (l++[⟨nextOf l,xs⟩]) 0) ∨
  (∃ d',P=(51,⟨st,true,l⟩,d')∧Fell d d' l s dr (firstOf l)):=by
 subst hP
 have hl:=sgT_len_le hx h1
 obtain ⟨T1,T2⟩:=h.total
 rcases h.append_new hoff hall hne hb xs hx with ⟨e,r⟩ | ⟨d',e,k1,k2⟩ | ⟨d',e,f1,f2,l',t',dr',f3,f5,f4⟩
 · refine .inl ⟨by rw [e];rfl,?_⟩
   unfold NoRoom
   rw [T1,T2] at r
   simp only [List.length_nil,Nat.add_zero] at r
   rcases r with r | r
   · exact .inl r
   · exact .inr (by omega)
 · exact .inr (.inl ⟨d',by rw [e];rfl,k1,k2,KR.new h.sgs.chain hall xs k2.sgs.chain⟩)
 · refine .inr (.inr ⟨d',by rw [e];rfl,f1,f2,l',t',dr',f3,⟨f5,?_⟩,?_⟩)
   · rw [f4.first,first_snoc _ fun e => by rw [e];rfl];exact Nat.le_refl _
   have hok:SgsOk (l++[⟨nextOf l,xs⟩]):=by
    refine ⟨?_,fun b hb y hy => ?_⟩
    · rcases List.eq_nil_or_concat l with rfl | ⟨init,a,rfl⟩
      · trivial
      · rw [List.concat_eq_append] at *
        rw [List.append_assoc]
        refine chained_snoc _ _ _ h.sgs.chain (hne a (getLast_snoc _ _)) ?_
        rw [nextOf_snoc]
    · rcases List.mem_append.1 hb with hb | hb
      · exact h.sgs.may b hb y hy
      · obtain rfl:b=⟨nextOf l,xs⟩:=by simpa using hb
        exact hx y hy
   · exact (KR.new h.sgs.chain hall xs hok.chain).trans (f4.kr hok t')
theorem begin_out {d:Dk} {l:List Sg} {s:Nat} {st:Int} {dr:Files} (h:LSt d l [] s dr) (hoff:d.off=false) (hne:∀ a,l.getLast?=some a→a.spans≠[]) (hb:nextOf l≤999999999) (xs:List Sp.Span) (hx:∀ x∈xs,Sp.May x) (h1:xs.length≤1) :
  (∃ d' s',beginP d ⟨st,false,l⟩ (sgT xs)=(50,⟨st,false,l⟩,d')∧Kept d d'∧LSt d' l [] s' dr∧KR l s l s'∧NoRoom d l dr) ∨
  (∃ d',beginP d ⟨st,false,l⟩ (sgT xs)=(0,⟨st,false,l++[⟨nextOf l,[]⟩]⟩,d')∧Kept d d'∧LSt d' (l++[⟨nextOf l,xs⟩]) [] 0 dr∧KR l s (l++[⟨nextOf l,xs⟩]) 0) ∨
  (∃ d',beginP d ⟨st,false,l⟩ (sgT xs)=(51,⟨st,true,l⟩,d')∧Fell d d' l s dr (firstOf l)):=by
 rcases List.eq_nil_or_concat l with rfl | ⟨init,a,rfl⟩
 · have hs:s=0:=by have:=h.safe;simpa [lastT] using this
   rcases begin_new (st:=st) h hoff (by rw [hs];rfl) hne hb xs hx h1 (P:=beginP d ⟨st,false,[]⟩ (sgT xs)) rfl with ⟨e,r⟩ | r | r
   · exact .inl ⟨d,s,e,Kept.refl _,h,KR.refl _ _,r⟩
   · exact .inr (.inl r)
   · exact .inr (.inr r)
 · rw [List.concat_eq_append] at *
   have hs:=h.safe
   rw [List.append_nil,lastT_snoc] at hs
   rcases h.sync_last hoff with ⟨d1,e,k1,k2⟩ | ⟨d1,e,f1,f2,l',t',dr',f3,f5,f4⟩
   · have hkr:KR (init++[a]) s (init++[a]) (sgT a.spans).length:=KR.sync h.sgs.chain hs
     have hP:beginP d ⟨st,false,init++[a]⟩ (sgT xs)=(let z:=d1.append (ln (nextOf (init++[a]))) (sgT xs)
       if z.1≠0 then (z.1,(⟨st,false,init++[a]⟩:Hl).told z.1,z.2) else (0,{ (⟨st,false,init++[a]⟩:Hl) with l:=init++[a]++[⟨nextOf (init++[a]),[]⟩] },z.2)):=by
      unfold beginP
      simp only [getLast_snoc]
      rw [e]
      rfl
     rcases begin_new (st:=st) k2 (k1.1.trans hoff) (by rw [lastT_snoc]) hne hb xs hx h1 hP with ⟨e2,r⟩ | ⟨d',e2,j1,j2,j3⟩ | ⟨d',e2,f⟩
     · refine .inl ⟨d1,_,e2,k1,k2,hkr,?_⟩
       unfold NoRoom at r ⊢
       rw [← k1.2.2.1]
       exact r
     · exact .inr (.inl ⟨d',e2,k1.trans j1,j2,hkr.trans j3⟩)
     · exact .inr (.inr ⟨d',e2,f.kept k1 hkr⟩)
   · refine .inr (.inr ⟨d1,?_,f1,f2,l',t',dr',f3,⟨f5,Nat.le_of_eq f4.first⟩,f4.kr h.sgs t'⟩)
     unfold beginP
     simp only [getLast_snoc]
     rw [e]
     rfl
theorem app_out {d:Dk} {l:List Sg} {s:Nat} {st:Int} {dr:Files} (h:LSt d l [] s dr) (hoff:d.off=false) (hb:nextOf l≤999999999) (x:Sp.Span) (hx:Sp.May x) :
  (∃ d' s',appP d ⟨st,false,l⟩ x=(50,⟨st,false,l⟩,d')∧Kept d d'∧LSt d' l [] s' dr∧KR l s l s'∧NoRoom d l dr) ∨
  (∃ d' s',appP d ⟨st,false,l⟩ x=(0,⟨st,false,pushed l x⟩,d')∧Kept d d'∧LSt d' (pushed l x) [] s' dr∧KR l s (pushed l x) s'∧(s'=s∨s'=0)) ∨
  (∃ d',appP d ⟨st,false,l⟩ x=(51,⟨st,true,l⟩,d')∧Fell d d' l s dr (firstOf l)):=by
 have hx1 : ∀ y ∈ [x], Sp.May y := fun y hy => by obtain rfl : y = x := by simpa using hy
                                                  exact hx
 unfold appP
 rw [if_neg (fun e => e hx)]
 rcases List.eq_nil_or_concat l with rfl | ⟨init,a,rfl⟩
 · rcases begin_out (st:=st) h hoff (fun a e => by cases e) hb [x] hx1 (by simp) with ⟨d',s',e,r⟩ | ⟨d',e,r1,r2,r3⟩ | ⟨d',e,r⟩
   · rw [sgT_one] at e
     refine .inl ⟨d',s',?_,r⟩
     simp only [List.getLast?_nil]
     rw [e];rfl
   · rw [sgT_one] at e
     refine .inr (.inl ⟨d',0,?_,r1,r2,r3,.inr rfl⟩)
     simp only [List.getLast?_nil]
     rw [e];rfl
   · rw [sgT_one] at e
     refine .inr (.inr ⟨d',?_,r⟩)
     simp only [List.getLast?_nil]
     rw [e];rfl
 · rw [List.concat_eq_append] at *
   simp only [getLast_snoc]
   have hs:=h.safe
   rw [List.append_nil,lastT_snoc] at hs
   have hma:∀ y∈a.spans,Sp.May y:=h.sgs.may a (by simp)
   have hfl:=frm_len hx
   by_cases h16:a.spans.length<16
   · rw [if_pos h16]
     have hpu:pushed (init++[a]) x=init++[⟨a.first,a.spans++[x]⟩]:=by unfold pushed;rw [getLast_snoc];simp only;rw [if_pos h16,pushL_snoc]
     have hkr:KR (init++[a]) s (init++[⟨a.first,a.spans++[x]⟩]) s:=KR.last h.sgs.chain (by rw [sureN_snoc hma hx hs];exact Nat.le_refl _) (take_take_snoc _ _ _)
     have hok:SgsOk (init++[⟨a.first,a.spans++[x]⟩]):=sgs_last h.sgs _ fun y hy => by
      rcases List.mem_append.1 hy with hy | hy
      · exact hma y hy
      · exact hx1 y hy
     have hbf:a.first≤999999999:=by rw [nextOf_snoc] at hb;unfold Sg.next at hb;omega
     obtain ⟨T1,T2⟩:=h.total
     rcases h.append_last hoff hbf x hx with ⟨e,r⟩ | ⟨d',e,k1,k2⟩ | ⟨d',e,f1,f2,l',t',dr',f3,f5,f4⟩
     · refine .inl ⟨d,s,by rw [e];rfl,Kept.refl _,h,KR.refl _ _,.inr ?_⟩
       rw [T1] at r
       simp only [List.length_nil,Nat.add_zero] at r
       omega
     · refine .inr (.inl ⟨d',s,by rw [e];simp only [ne_eq,not_true_eq_false,if_false];rw [hpu,pushL_snoc],k1,?_,?_,.inl rfl⟩)
       · rw [hpu];exact k2
       · rw [hpu];exact hkr
     · exact .inr (.inr ⟨d',by rw [e];rfl,f1,f2,l',t',dr',f3,⟨f5,by rw [f4.first];cases init <;> exact Nat.le_refl _⟩,hkr.trans (f4.kr hok t')⟩)
   · rw [if_neg h16]
     have hne:∀ b,(init++[a]).getLast?=some b→b.spans≠[]:=fun b e => by
      rw [getLast_snoc] at e
      injection e with e
      subst e
      intro e2
      rw [e2] at h16
      simp at h16
     have hpu:pushed (init++[a]) x=init++[a]++[⟨nextOf (init++[a]),[x]⟩]:=by unfold pushed;rw [getLast_snoc,nextOf_snoc];simp only;rw [if_neg h16]
     rcases begin_out (st:=st) h hoff hne hb [x] hx1 (by simp) with ⟨d',s',e,r⟩ | ⟨d',e,r1,r2,r3⟩ | ⟨d',e,r⟩
     · rw [sgT_one] at e
       exact .inl ⟨d',s',by rw [e];rfl,r⟩
     · rw [sgT_one] at e
       refine .inr (.inl ⟨d',0,?_,r1,?_,?_,.inr rfl⟩)
       · rw [e]
         simp only [ne_eq,not_true_eq_false,if_false]
         rw [hpu,pushL_snoc]
         rfl
       · rw [hpu];exact r2
       · rw [hpu];exact r3
     · rw [sgT_one] at e
       exact .inr (.inr ⟨d',by rw [e];rfl,r⟩)
theorem sync_out {d:Dk} {l:List Sg} {s:Nat} {st:Int} {dr:Files} (h:LSt d l [] s dr) (hoff:d.off=false) :
  (∃ d',syncP d ⟨st,false,l⟩=(0,⟨st,false,l⟩,d')∧Kept d d'∧LSt d' l [] (lastT l).length dr∧KR l s l (lastT l).length) ∨
  (∃ d',syncP d ⟨st,false,l⟩=(51,⟨st,true,l⟩,d')∧Fell d d' l s dr (firstOf l)):=by
 unfold syncP
 rcases List.eq_nil_or_concat l with rfl | ⟨init,a,rfl⟩
 · have hs:s=0:=by have:=h.safe;simpa [lastT] using this
   subst hs
   exact .inl ⟨d,rfl,Kept.refl _,h,KR.refl _ _⟩
 · rw [List.concat_eq_append] at *
   simp only [getLast_snoc]
   have hs:=h.safe
   rw [List.append_nil,lastT_snoc] at hs
   rcases h.sync_last hoff with ⟨d1,e,k1,k2⟩ | ⟨d1,e,f1,f2,l',t',dr',f3,f5,f4⟩
   · rw [e,lastT_snoc]
     exact .inl ⟨d1,rfl,k1,k2,KR.sync h.sgs.chain hs⟩
   · rw [e]
     exact .inr ⟨d1,rfl,f1,f2,l',t',dr',f3,⟨f5,Nat.le_of_eq f4.first⟩,f4.kr h.sgs t'⟩
def turned (l:List Sg):List Sg:=match l.getLast? with
 | none => []
 | some a => if a.spans=[] then l else l++[⟨a.next,[]⟩]
theorem rot_out {d:Dk} {l:List Sg} {s:Nat} {st:Int} {dr:Files} (h:LSt d l [] s dr) (hoff:d.off=false) (hb:nextOf l≤999999999) :
  (∃ d' s',rotP d ⟨st,false,l⟩=(50,⟨st,false,l⟩,d')∧Kept d d'∧LSt d' l [] s' dr∧KR l s l s'∧NoRoom d l dr) ∨
  (∃ d' s',rotP d ⟨st,false,l⟩=(0,⟨st,false,turned l⟩,d')∧Kept d d'∧LSt d' (turned l) [] s' dr∧KR l s (turned l) s'∧(s'=s∨s'=0)) ∨
  (∃ d',rotP d ⟨st,false,l⟩=(51,⟨st,true,l⟩,d')∧Fell d d' l s dr (firstOf l)):=by
 unfold rotP turned
 rcases List.eq_nil_or_concat l with rfl | ⟨init,a,rfl⟩
 · exact .inr (.inl ⟨d,s,rfl,Kept.refl _,h,KR.refl _ _,.inl rfl⟩)
 · rw [List.concat_eq_append] at *
   simp only [getLast_snoc]
   by_cases hn:a.spans=[]
   · rw [if_pos hn,if_pos hn]
     exact .inr (.inl ⟨d,s,rfl,Kept.refl _,h,KR.refl _ _,.inl rfl⟩)
   · rw [if_neg hn,if_neg hn]
     have hne:∀ b,(init++[a]).getLast?=some b→b.spans≠[]:=fun b e => by
      rw [getLast_snoc] at e
      injection e with e
      subst e
      exact hn
     rcases begin_out (st:=st) h hoff hne hb [] (fun y hy => by cases hy) (by simp) with r | ⟨d',e,r1,r2,r3⟩ | r
     · exact .inl r
     · rw [nextOf_snoc] at e r2 r3
       exact .inr (.inl ⟨d',0,e,r1,r2,r3,.inr rfl⟩)
     · exact .inr (.inr r)
theorem LSt.remove_first {d:Dk} {a:Sg} {r:List Sg} {s:Nat} {dr:Files} (h:LSt d (a::r) [] s dr) (hr:r≠[]) (hoff:d.off=false) :
  (∃ d',d.remove (ln a.first)=(0,d')∧Kept d d'∧LSt d' r [] s dr∧KR (a::r) s r s) ∨
  (∃ d',d.remove (ln a.first)=(51,d')∧Fell d d' (a::r) s dr (sureOf (a::r) s)):=by
 rcases List.eq_nil_or_concat r with rfl | ⟨init,b,rfl⟩
 · exact absurd rfl hr
 · rw [List.concat_eq_append] at *
   have hp:=h.perm (init:=a::init) (a:=b)
   have hp':d.files.Perm ([]++(ln a.first,⟨sgT a.spans,(sgT a.spans).length⟩)::(init.map full++lastF b [] s::dr)):=hp
   obtain ⟨_,hg,hd⟩:=put_perm_old (g:=⟨[],0⟩) h.ok.rising hp'
   have hrm:d.remove (ln a.first)=d.change (del d.files (ln a.first)):=by
    unfold Dk.remove
    rw [hoff,if_neg (by decide),hg]
   rw [hrm]
   have hok:SgsOk (init++[b]):=⟨chained_tail h.sgs.chain,fun c hc x hx => h.sgs.may c (List.mem_cons_of_mem _ hc) x hx⟩
   have hs:=h.safe
   have e1:lastT (a::(init++[b]))=sgT b.spans:=lastT_snoc (a::init) b
   rw [e1] at hs
   have hnew:LSt { d with files:=del d.files (ln a.first) } (init++[b]) [] s dr:=by
    refine ⟨?_,.inr ⟨init,b,rfl,hd⟩,hok,fnil_none,by rw [lastT_snoc];exact hs,h.dr,fun e => absurd rfl e⟩
    have h1:=h.ok
    refine h1.files (rising_del h1.rising _) (fun p hp => ?_) ?_ ?_
    · have:=(mem_del.1 hp).1
      exact ⟨h1.named p this,h1.safe p this⟩
    · have:=del_le d.files (ln a.first);have:=h1.count;omega
    · have:=total_sub (del_sub d.files (ln a.first));have:=h1.fits;omega
   have hkr:KR (a::(init++[b])) s (init++[b]) s:=KR.drop h.sgs.chain (by simp) s
   rcases LSt.change (d0:=d) (d:=d) (m:=del d.files (ln a.first)) ⟨rfl,rfl,rfl,rfl⟩ hnew h with ⟨d',e,k1,k2⟩ | ⟨d',e,f1,f2,l',t',dr',f3,f4,f5,_⟩
   · exact .inl ⟨d',e,k1,k2,hkr⟩
   · exact .inr ⟨d',e,f1,f2,l',t',dr',f3,⟨f5,by rw [f4.first];exact first_le_sure h.sgs.chain s⟩,f4.kr h.sgs t'⟩
theorem ret_list (n:Nat) (hn:1≤n):∀ (r:List Sg) (d:Dk) (s:Nat) (dr:Files),LSt d r [] s dr→d.off=false →
  (∃ d',retL n d r=(0,r.drop (r.length-n),d')∧Kept d d'∧LSt d' (r.drop (r.length-n)) [] s dr∧KR r s (r.drop (r.length-n)) s∧sureOf (r.drop (r.length-n)) s=sureOf r s) ∨
  (∃ d' k,retL n d r=(51,r.drop k,d')∧Fell d d' r s dr (sureOf r s))
 | [],d,s,dr,h,hoff => .inl (by rw [show ([]:List Sg).drop (([]:List Sg).length-n)=[] by simp];exact ⟨d,rfl,Kept.refl _,h,KR.refl _ _,rfl⟩)
 | a::r,d,s,dr,h,hoff => by
  unfold retL
  by_cases hlt:n<(a::r).length
  · rw [if_pos hlt]
    have hr:r≠[]:=fun e => by rw [e] at hlt;simp at hlt;omega
    have hsu:sureOf (a::r) s=sureOf r s:=by
     cases r with
     | nil => exact absurd rfl hr
     | cons b r => rfl
    rcases h.remove_first hr hoff with ⟨d1,e,k1,k2,k3⟩ | ⟨d1,e,f⟩
    · rw [e]
      simp only [ne_eq,not_true_eq_false,if_false]
      have hd:(a::r).drop ((a::r).length-n)=r.drop (r.length-n):=by
       rw [List.length_cons] at hlt ⊢
       rw [show r.length+1-n=(r.length-n)+1 by omega,List.drop_succ_cons]
      rw [hd]
      rcases ret_list n hn r d1 s dr k2 (k1.1.trans hoff) with ⟨d',e2,j1,j2,j3,j4⟩ | ⟨d',k,e2,f⟩
      · exact .inl ⟨d',e2,k1.trans j1,j2,k3.trans j3,j4.trans hsu.symm⟩
      · exact .inr ⟨d',k+1,by rw [e2,List.drop_succ_cons],by rw [hsu];exact f.kept k1 k3⟩
    · exact .inr ⟨d1,0,by rw [e];rfl,f⟩
  · rw [if_neg hlt,show (a::r).length-n=0 by omega,List.drop_zero]
    exact .inl ⟨d,rfl,Kept.refl _,h,KR.refl _ _,rfl⟩
theorem ret_out {d:Dk} {l:List Sg} {s:Nat} {st:Int} {dr:Files} (h:LSt d l [] s dr) (hoff:d.off=false) (n:Int) (hn:1≤n) :
  (∃ d',retP n d ⟨st,false,l⟩=(0,⟨st,false,l.drop (l.length-n.toNat)⟩,d')∧Kept d d'∧LSt d' (l.drop (l.length-n.toNat)) [] s dr∧KR l s (l.drop (l.length-n.toNat)) s∧sureOf (l.drop (l.length-n.toNat)) s=sureOf l s) ∨
  (∃ d' k,retP n d ⟨st,false,l⟩=(51,⟨st,true,l.drop k⟩,d')∧Fell d d' l s dr (sureOf l s)):=by
 unfold retP
 rw [if_neg (by omega)]
 rcases ret_list n.toNat (by omega) l d s dr h hoff with ⟨d',e,r⟩ | ⟨d',k,e,r⟩
 · exact .inl ⟨d',by simp only [e];rfl,r⟩
 · exact .inr ⟨d',k,by simp only [e];rfl,r⟩
end Go.Proofs.YtdacanghbepjpaaGreatDoor
namespace Go.Proofs.YtdacanghbepjpaaGreatDoor
set_option linter.unusedSimpArgs false
set_option linter.unusedVariables false
open Dsk
variable {d:Dk} {l:List Sg} {t:Str} {s:Nat} {dr:Files}
def FellO (d d':Dk) (l:List Sg) (s:Nat) (dr:Files):Prop:=d.fail≠none∧Downed d d'∧∃ l' t' dr',LSt d' l' t' (lastT l'++t').length dr'∧(Cuts (Dsk.del dr lnew) (Dsk.del dr' lnew)∧firstOf l'=firstOf l)∧KR l s l' (lastT l'++t').length
theorem LSt.redraft {d':Dk} {dr':Files} (h:LSt d l t s dr) (ok:Ok d') (hd:IsDr dr') (hp:d'.files.Perm (base l t s++dr')):LSt d' l t s dr':=⟨ok,h.files.of hp,h.sgs,h.torn,h.safe,hd,h.tail⟩
theorem LSt.draft_change {m dr':Files} (h:LSt d l t s dr) (h1:Rising m) (h2:∀ p∈m,Named p.1∧p.2.safe≤p.2.data.length) (h3:m.length≤1024) (h4:Dsk.total m≤d.room) (hd:IsDr dr') (hp:m.Perm (base l t s++dr')) :
  (∃ d',d.change m=(0,d')∧Kept d d'∧LSt d' l t s dr')∨(∃ d',d.change m=(51,d')∧FellO d d' l s dr):=by
 have hnew:LSt { d with files:=m } l t s dr':=h.redraft (h.ok.files h1 h2 h3 h4) hd hp
 rcases LSt.change (d0:=d) (d:=d) (m:=m) ⟨rfl,rfl,rfl,rfl⟩ hnew h with r | ⟨d',e,f1,f2,l',t',dr2,f3,f4,f5,_⟩
 · exact .inl r
 · exact .inr ⟨d',e,f1,f2,l',t',dr2,f3,⟨f5.del _,f4.first⟩,f4.kr h.sgs t'⟩
end Go.Proofs.YtdacanghbepjpaaGreatDoor

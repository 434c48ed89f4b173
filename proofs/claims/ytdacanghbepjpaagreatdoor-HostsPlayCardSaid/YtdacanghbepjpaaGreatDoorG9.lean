/- A log is opened on a disk that has files: walked. What the rows say of the library's variables. -/
import Derived.Test.YtdacanghbepjpaaGreatDoorG8
import Derived.Test.YtdacanghbepjpaaGreatDoorM10
import Derived.Test.YtdacanghbepjpaaGreatDoorG3
import Derived.Test.YtdacanghbepjpaaGreatDoorRows
import Derived.LaidMore
import Derived.LaidHandle
import Derived.LaidSub
import Derived.Stop.LaidErr
set_option linter.unusedSimpArgs false
set_option linter.unusedVariables false
set_option maxRecDepth 100000
namespace Go.Proofs.YtdacanghbepjpaaGreatDoor
open Go.RowKit Go.Maps
open Dsk
section
variable {w0 w w' w2:World} {P P' Q S:Nat→Prop} {bd j jx:Nat} {d d' d2:Dk} {h h' h2:Hl} {x x' x2:Dm} {s:Nat} {l:List Sg} {t:Str} {dr:Files}
theorem DA.opened (n:DA w0 P w bd d) (he:LEnv w0) (hoff:d.off=false) (hs:LSt d l t s dr) (hb:nextOf l≤999999999) (h9:(openP d l t).1=0) :
  Calls Tryz.prog 101 #[.pointer (some ⟨bd,0,none⟩)] w fun e w' => ∃ j',e=.returned (.tuple #[.pointer (some ⟨j',0,none⟩),.int .i64 0])∧∃ P',Gr P P' w∧LA w0 P' w' bd j' (openP d l t).2 ⟨d.starts,false,l⟩∧Chg P w w':=by
 obtain ⟨X,n,hP,hU⟩:=n
 refine (hopen_any n hoff he hs hb).mono ?_
 rintro e w' (⟨_,j',rfl,N,hN,hS,hK⟩ | ⟨e1,_⟩)
 · exact ⟨j',rfl,LA.made n hP hN hS hK⟩
 exact absurd h9 e1
end
end Go.Proofs.YtdacanghbepjpaaGreatDoor
namespace Go.Proofs.YtdacanghbepjpaaGreatDoor
open Go.RowKit Go.ChangeShapes
theorem es_star : "*" ++ "errors.errorString" = "*errors.errorString" := by decide
theorem es_row (u : TypeId) (h : Tryz.prog.typeName? 3 u = some "*errors.errorString") : u = 285 :=
 typeName_ptr_named (nm := "errors.errorString") (by rw [es_star]; kernel_rfl) (by kernel_rfl) (by decide) u (by rw [es_star]; exact h)
theorem hl_env {W:World} (h:laidMetH Tryz.prog Rows.daemonNoneRow.laid W):LEnv W:=by
 refine ⟨?_,?_⟩
 · have h1 := ((laidMetH_iff.1 h).1).filter fun x => x.1 == "internal/strconv.uint64pow10"
   have e : ((Rows.daemonNoneRow.laid.filter fun x => x.2.handleName?.isNone).filter fun x => x.1 == "internal/strconv.uint64pow10") = [("internal/strconv.uint64pow10", Lib.tabData .u64 Lib.pow10Tab)] := by kernel_rfl
   rw [e] at h1
   exact Lib.tabIs_of_head (g:=0) (t:=264) (e:=216) (n:=20) (by kernel_rfl) (by kernel_rfl) (by kernel_rfl) (by kernel_rfl) (by kernel_rfl) (by kernel_rfl) h1
 have h1 := ((laidMetH_iff.1 h).1).filter fun x => x.1 == "strconv.ErrSyntax"
 have e : ((Rows.daemonNoneRow.laid.filter fun x => x.2.handleName?.isNone).filter fun x => x.1 == "strconv.ErrSyntax") = [("strconv.ErrSyntax", .iface "*errors.errorString" (.ptr (.agg [.lit (.string [105, 110, 118, 97, 108, 105, 100, 32, 115, 121, 110, 116, 97, 120])])))] := by kernel_rfl
 rw [e] at h1
 obtain ⟨a,s,hv,_⟩:=laid_sentinel (g:=1) (ti:=171) (tp:=285) (te:=287) (ts:=9) h1 (by kernel_rfl) (by kernel_rfl) Tryz.underlying171 es_row (by kernel_rfl) Tryz.underlying287 rfl rfl (by kernel_rfl) (by kernel_rfl) (by kernel_rfl)
 exact ⟨_,_,hv⟩
end Go.Proofs.YtdacanghbepjpaaGreatDoor
namespace Go.Proofs.YtdacanghbepjpaaGreatDoor
open Dsk
/-! ### which were answered -/
def missN (had:List Bool) (n:Nat):Nat:=(List.range n).countP fun i => !(had.getD i false)
/-! ### the law's acts -/
structure CrI (d:Dk) (h:Hl) (s:Nat) (x:Dm) (had:List Bool) (many:Int) (k:Nat):Prop where
 node:NodeP d h s x
 host:x.host=1
 mny:x.out=noB∨many=x.many
 mb:0≤many∧many≤8
 miss:(missN had x.next.toNat:Int)≤x.gap
 len:had.length≤140000*(k+1)
 next:nextOf h.l≤140000*(k+1)
 tot:total d.files≤120*k
 fls:d.files.length≤k
 room:d.room=1048576
structure CrD (d:Dk) (h:Hl) (s:Nat) (x:Dm) (d':Dk) (had:List Bool) (k:Nat):Prop where
 node:NodeP d h s x
 fell:NodeF d h s x d'
 host:x.host=1
 miss:(missN had x.next.toNat:Int)≤x.gap
 len:had.length≤140000*(k+1)
 next:nextOf h.l≤140000*k
 tot:total d'.files≤120*k
 fls:d'.files.length≤k
 room:d'.room=1048576
section
variable {d d':Dk} {l l':List Sg} {t':Str} {s s' k:Nat} {h h':Hl} {x x':Dm} {had had':List Bool} {many:Int}
theorem keep_grw (ok:Ok d) (x:Dm) (a b:Int):Grw d (keepC d x a b).2.2 120 1:=by
 unfold keepC
 have:=ok.save_grw a b
 simp only
 split
 · exact this
 exact this
theorem skip_grw (ok:Ok d) (h:Hl) (x:Dm):Grw d (skipC d h x).2.2 120 1:=by
 unfold skipC
 split
 · exact (Grw.refl d).more (Nat.zero_le _) (Nat.zero_le _)
 exact keep_grw ok x _ _
theorem bat_disk (d:Dk) (h:Hl) (x:Dm):(batC d h x).2.2=d:=by
 unfold batC
 split
 · rfl
 split <;> rfl
theorem step_grw (ok:Ok d) (now:Int) (h:Hl) (x:Dm):Grw d (stepC now d h x).2.2 120 1:=by
 have g:=skip_grw ok h x
 have z:Grw d d 120 1:=(Grw.refl d).more (Nat.zero_le _) (Nat.zero_le _)
 have hg:Grw d (gatherC d h x).2.2 120 1:=by
  unfold gatherC
  simp only
  split
  · exact g
  rw [bat_disk];exact g
 unfold stepC
 split
 · exact z
 split
 · split
   · exact z
   exact z
 simp only
 split
 · exact hg
 exact hg
theorem take_grw (ok:Ok d) (b:Po.Str) (x:Dm):Grw d (takeC b d x).2.2 120 1:=by
 have z:Grw d d 120 1:=(Grw.refl d).more (Nat.zero_le _) (Nat.zero_le _)
 unfold takeC
 split
 · exact z
 split
 · exact z
 split
 · exact z
 have g:=keep_grw ok x (by assumption:Int) x.gap
 simp only
 split
 · exact keep_grw ok x _ _
 exact keep_grw ok x _ _
theorem NodeP.ok (p:NodeP d h s x):Ok d:=by obtain ⟨dr,f,_⟩:=p.run.file;exact f.ok
theorem Stp.nextC (st:Stp h.l s h'.l s') (p:NodeP d h' s' x):nextOf h'.l≤nextOf h.l+65536:=by
 have h1:=nextOf_recs p.run.chain
 have h2:=p.recs_le
 have h3:=st.first
 have h4:=sureOf_le h.l s
 omega
theorem step_host (now:Int) (d:Dk) (h:Hl) (x:Dm):(stepC now d h x).2.1.host=x.host:=by
 unfold stepC gatherC skipC keepC batC
 repeat' split
 all_goals first | rfl | (simp only;repeat' split)
 all_goals rfl
theorem open_small {t:Str} {dr:Files} {d3:Dk} (hf:LSt d l t (lastT l++t).length dr) (hoff:d.off=false) (hb:nextOf l≤999999999) (e:openP d l t=(0,d3)):total d3.files≤total d.files∧d3.files.length≤d.files.length∧d3.room=d.room:=by
 obtain ⟨t1,t2⟩:=hf.total
 have h1:=del_le dr lnew
 have h2:=total_sub (del_sub dr lnew)
 rcases open_out hf hoff hb with ⟨d',s',e',k,f,_⟩ | ⟨d',e',_⟩ | ⟨d',e',_⟩
 · rw [e] at e'
   injection e' with _ e'
   subst e'
   obtain ⟨u1,u2⟩:=f.total
   simp only [List.length_nil,Nat.add_zero] at u1
   exact ⟨by omega,by omega,k.2.2.1⟩
 · rw [e] at e';cases e'
 rw [e] at e';cases e'
end
end Go.Proofs.YtdacanghbepjpaaGreatDoor
namespace Go.Proofs.YtdacanghbepjpaaGreatDoor
open Go.RowKit Go.Maps
open Dsk
def blRow (b:Bool):List Value:=[.bool b]
abbrev OwnBl (w:World) (B:Nat) (v:Value) (l:List Bool):Prop:=OwnRow blRow 1 4 w B v l
section
variable {w w':World} {B:Nat} {hv:Value} {had:List Bool}
end
end Go.Proofs.YtdacanghbepjpaaGreatDoor
namespace Go.Proofs.YtdacanghbepjpaaGreatDoor
open Go.RowKit Go.Maps
open Dsk
theorem encAck_of {h f n:Int} (k:Po.AckOk h f n):(encAck h f n).1=ackB h f n:=by unfold encAck;rw [if_pos k]
theorem ackB_size {h f n:Int} (k:Po.AckOk h f n):(ackB h f n).size≤maxLen:=by
 obtain ⟨⟨h1,h2⟩,⟨f1,f2⟩,le,⟨n1,n2⟩⟩:=k
 have e:ackB h f n=putsB ⟨#[65]⟩ h f (n-f) 3:=(putsB_list 65 h f (n-f)).symm
 rw [e]
 have:=putsB_size ⟨#[65]⟩ (by decide) (a:=h) (b:=f) (c:=n-f) (by omega) (by omega) (by omega) 3
 unfold maxLen
 omega
def NE (w0 W:World) (K:Nat→Prop) (jn bd j jx:Nat) (d:Dk) (h:Hl) (x:Dm):Prop:=∃ P,ND w0 P W jn bd j jx d h x∧∀ k,K k→¬ P k∧k<W.heap.size
def NEP (w0 W:World) (K:Nat→Prop) (jn bd j jx:Nat) (d:Dk) (h:Hl) (x:Dm) (w':World):Prop:=NE w0 w' K jn bd j jx d h x∧Keeps K W w'
def NoK (_:Nat):Prop:=False
section
variable {w0 w w':World} {K:Nat→Prop} {jn bd j jx:Nat} {d d':Dk} {h h':Hl} {x x':Dm} {s c k:Nat} {Ls:List Sp.Span}
structure Few (d:Dk) (h:Hl) (s:Nat) (x:Dm):Prop where
 node:NodeP d h s x
 next:nextOf h.l≤900000000
 len:d.files.length<1024
 room:total d.files+19≤d.room
theorem NodeC.few (n:NodeC d h s x Ls c k) (hk:k≤1000) (hc:120*(k+2)≤c):Few d h s x:=by
 obtain ⟨a,b,e⟩:=n.bounds hk hc
 exact ⟨n.node,e,a,b⟩
end
end Go.Proofs.YtdacanghbepjpaaGreatDoor
namespace Go.Proofs.YtdacanghbepjpaaGreatDoor
open Go.RowKit Go.Maps
open Dsk
def DE (w0 W:World) (K:Nat→Prop) (jn bd:Nat) (d:Dk):Prop:=∃ P u1 u2,DA w0 P W bd d∧Blk W jn 43 #[.pointer (some ⟨bd,0,none⟩),.pointer u1,.pointer u2]∧¬ P jn∧w0.heap.size≤jn∧∀ k,K k→¬ P k∧k<W.heap.size∧k≠jn
section
variable {w0 w w':World} {K S:Nat→Prop} {jn bd j jx:Nat} {d d':Dk} {h h':Hl} {x x':Dm} {s c k:Nat} {l:List Sg} {t:Str} {dr:Files}
end
end Go.Proofs.YtdacanghbepjpaaGreatDoor
namespace Go.Proofs.YtdacanghbepjpaaGreatDoor
open Go.RowKit Go.Maps
open Dsk
structure CrM (w wx:World) (K:Nat→Prop) (jn qc:Nat) (a b:Int) (hv:Value) (had:List Bool):Prop where
 cur:Blk wx qc 30 #[.int .i64 a,.int .i64 b]
 row:OwnBl wx w.heap.size hv had
 kq:K qc
 kr:∀ q,hv.ownBlock=some q→K q∧q≠qc
 kn:∀ q,K q→q≠jn∧w.heap.size≤q
section
variable {w0 w w':World} {K S:Nat→Prop} {jn bd j jx qc:Nat} {a b a' b' many now:Int} {hv u:Value} {had had':List Bool} {d d':Dk} {h h':Hl} {x x':Dm} {s c k:Nat}
theorem step_sent (now:Int) (d:Dk) (h:Hl) (x:Dm):(stepC now d h x).2.1.sent=x.sent∨(stepC now d h x).2.1.sent=now:=by
 have hk:∀ a b,(keepC d x a b).2.1.sent=x.sent:=fun a b => by
  unfold keepC
  simp only
  split <;> rfl
 have hs:(skipC d h x).2.1.sent=x.sent:=by
  unfold skipC
  split
  · rfl
  exact hk _ _
 have hb:∀ (d2:Dk) (y:Dm),(batC d2 h y).2.1.sent=y.sent:=fun d2 y => by
  unfold batC
  split
  · rfl
  split <;> rfl
 have hg:(gatherC d h x).2.1.sent=x.sent:=by
  unfold gatherC
  simp only
  split
  · exact hs
  rw [hb];exact hs
 unfold stepC
 split
 · exact .inl rfl
 split
 · split
   · exact .inl rfl
   exact .inr rfl
 simp only
 split
 · exact .inl hg
 exact .inr rfl
theorem take_sent (b:Po.Str) (d:Dk) (x:Dm):(takeC b d x).2.1.sent=x.sent:=by
 have hk:∀ a b,(keepC d x a b).2.1.sent=x.sent:=fun a b => by
  unfold keepC
  simp only
  split <;> rfl
 unfold takeC
 split
 · rfl
 split
 · rfl
 split
 · rfl
 simp only
 split
 · exact hk _ _
 exact hk _ _
def CrUp (w wr:World) (jn bd qc:Nat) (a b:Int) (hv:Value) (many now:Int) (k:Nat):Prop :=
 ∃ K j jx d h s x had,NE w wr K jn bd j jx d h x∧CrI d h s x had many k∧CrM w wr K jn qc a b hv had∧0≤x.sent∧x.sent≤now∧a≤x.next∧b≤x.gap
def CrDn (w wr:World) (jn bd qc:Nat) (a b:Int) (hv:Value) (k:Nat):Prop :=
 ∃ K d h s x had d',DE w wr K jn bd d'∧CrD d h s x d' had k∧CrM w wr K jn qc a b hv had∧x.next=a∧x.gap=b
def CrSt (w wr:World) (jn bd qc:Nat) (a b:Int) (hv:Value) (k:Nat):Prop :=
 ∃ K d h s x had d',DE w wr K jn bd d'.start.2∧CrD d h s x d' had k∧CrM w wr K jn qc a b hv had∧x.next=a∧x.gap=b
end
end Go.Proofs.YtdacanghbepjpaaGreatDoor

/- The chapter's daemon: walked. -/
import Derived.Test.YtdacanghbepjpaaGreatDoorM14
namespace Go.Proofs.YtdacanghbepjpaaGreatDoor
set_option linter.unusedSimpArgs false
set_option linter.unusedVariables false
set_option maxRecDepth 100000
open Go.RowKit Go.Maps
open Dsk
theorem encAck_of {h f n:Int} (k:Po.AckOk h f n):(encAck h f n).1=ackB h f n:=by unfold encAck;rw [if_pos k]
theorem ackB_size {h f n:Int} (k:Po.AckOk h f n):(ackB h f n).size≤maxLen:=by
 obtain ⟨⟨h1,h2⟩,⟨f1,f2⟩,le,⟨n1,n2⟩⟩:=k
 have e:ackB h f n=putsB ⟨#[65]⟩ h f (n-f) 3:=(putsB_list 65 h f (n-f)).symm
 rw [e]
 have:=putsB_size ⟨#[65]⟩ (by decide) (a:=h) (b:=f) (c:=n-f) (by omega) (by omega) (by omega) 3
 unfold maxLen
 omega
def NE (w0 W:World) (K:Nat→Prop) (jn bd j jx:Nat) (d:Dk) (h:Hl) (x:Dm):Prop:=∃ P,ND w0 P W jn bd j jx d h x∧∀ k,K k→¬ P k∧k<W.heap.size
def NEP (w0 W:World) (K:Nat→Prop) (jn bd j jx:Nat) (d:Dk) (h:Hl) (x:Dm) (w':World):Prop:=NE w0 w' K jn bd j jx d h x∧Keeps K W w'
def NoK (_:Nat):Prop:=False
section
variable {w0 w w':World} {K:Nat→Prop} {jn bd j jx:Nat} {d d':Dk} {h h':Hl} {x x':Dm} {s c k:Nat} {Ls:List Sp.Span}
theorem NDA.ne {P:Nat→Prop} (hK:∀ k,K k→¬ P k∧k<w.heap.size) (n:NDA w0 P w jn bd j jx d h x w'):NEP w0 w K jn bd j jx d h x w':=by
 obtain ⟨P',h1,n,h3⟩:=n
 exact ⟨⟨P',n,fun k e => ⟨h1.not (hK k e).2 (hK k e).1,Nat.lt_of_lt_of_le (hK k e).2 h3.size⟩⟩,Chg.mono h3 fun k _ e e2 => (hK k e2).1 e⟩
theorem NE.below (n:NE w0 w K jn bd j jx d h x) (y:Below w.heap.size w w'):NE w0 w' K jn bd j jx d h x:=by
 obtain ⟨P,n,hK⟩:=n
 exact ⟨P,n.below y,fun k e => ⟨(hK k e).1,Nat.lt_of_lt_of_le (hK k e).2 y.size⟩⟩
theorem NE.drop {K2:Nat→Prop} (n:NE w0 w K jn bd j jx d h x) (hK2:∀ k,K2 k→K k):NE w0 w K2 jn bd j jx d h x:=by
 obtain ⟨P,n,hK⟩:=n
 exact ⟨P,n,fun k e => hK k (hK2 k e)⟩
theorem ND.ne {P:Nat→Prop} (n:ND w0 P w jn bd j jx d h x):NE w0 w NoK jn bd j jx d h x:=⟨P,n,fun k e => e.elim⟩
structure Few (d:Dk) (h:Hl) (s:Nat) (x:Dm):Prop where
 node:NodeP d h s x
 next:nextOf h.l≤900000000
 len:d.files.length<1024
 room:total d.files+19≤d.room
theorem NodeC.few (n:NodeC d h s x Ls c k) (hk:k≤1000) (hc:120*(k+2)≤c):Few d h s x:=by
 obtain ⟨a,b,e⟩:=n.bounds hk hc
 exact ⟨n.node,e,a,b⟩
theorem NE.take (n:NE w0 w K jn bd j jx d h x) (f:Few d h s x) (b:ByteArray) (hb:b.size≤maxLen) {R:(Bool×Int)×Dm×Dk} (hR:takeC b.data.toList d x=R) :
  Calls Tryz.prog 15 #[.pointer (some ⟨jx,0,none⟩),.string b] w fun e w' => e=.returned (.tuple #[.bool R.1.1,.int .i64 R.1.2])∧NEP w0 w K jn bd j jx R.2.2 h R.2.1 w':=by
 subst hR
 obtain ⟨P,n,hK⟩:=n
 refine (n.na.take f.node f.next b hb).mono ?_
 rintro e w' ⟨rfl,hp⟩
 exact ⟨rfl,(n.acted hp).ne hK⟩
theorem NE.first (n:NE w0 w K jn bd j jx d h x) (f:Few d h s x):Calls Tryz.prog 26 #[.pointer (some ⟨j,0,none⟩)] w fun e w' => e=.returned (.int .i64 (firstOf h.l:Nat))∧Below w.heap.size w w':=by obtain ⟨P,n,_⟩:=n;exact n.na.first f.node f.next
end
end Go.Proofs.YtdacanghbepjpaaGreatDoor

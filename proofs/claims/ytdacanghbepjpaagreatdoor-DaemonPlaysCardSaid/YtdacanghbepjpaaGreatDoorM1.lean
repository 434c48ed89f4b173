/- Edits, plainly: states, what an edit makes of one, where a key lies. No program in sight. Numbers as bytes, seven bits each, the most significant first: written, and read. No program in sight. Numbers as bytes: how many there are, and which. Numbers as bytes, read by the document's way. Edits and states as bytes, plainly: written, read, and back. No program in sight. A journal's batches as bytes, plainly: written, read, and back. No program in sight. Spans as bytes, plainly: written, read, and back. No program in sight. Regions that draw their order: the head of the region in a class of worlds, one walk in the order of the text; the forced tail behind it. After the library's own theorems on quiet regions and on still ones with a tail. Cursors as bytes, in plain Lean. Batches and acks as bytes, plainly. No program in sight. -/
import Derived.Test.YtdacanghbepjpaaGreatDoorRows
import Derived.Lib.SlicesCompact
import Derived.RowKit
import Derived.Lib.ItoaNum
import Derived.Deep.Quiet
import Derived.StillTail
import Derived.BigQuiet
import Derived.Below
import Derived.Laws.NewBlocks
import Derived.Deep.RegionHeld
namespace Go.Proofs.YtdacanghbepjpaaGreatDoor.Ed
set_option linter.unusedSimpArgs false
set_option linter.unusedVariables false
structure Tab where
 frm:ByteArray
 tabs:List Int
structure St where
 l:List Tab
 log:Int
 next:Int
structure Edit where
 kind:Int
 at_:Int
 file:Int
 files:List Int
 key:ByteArray
def lt (x y:ByteArray):Bool:=Op.bytesLess x.toList y.toList
theorem bl_or:∀ x y:List UInt8,(Op.bytesLess x y || x == y)=!Op.bytesLess y x
 | [],[] => rfl
 | [],_::_ => rfl
 | _::_,[] => rfl
 | x::xs,y::ys => by
  have ih:=bl_or xs ys
  simp only [Op.bytesLess]
  rcases Nat.lt_trichotomy x.toNat y.toNat with h | h | h
  · have h1:x<y:=UInt8.lt_iff_toNat_lt.2 h
    have h2:¬ y<x:=fun k => by have:=UInt8.lt_iff_toNat_lt.1 k;omega
    have h3:x≠y:=fun k => by subst k;omega
    simp [h1,h2,Ne.symm h3]
  · obtain rfl:x=y:=UInt8.toNat_inj.1 h
    simp
    rw [← ih]
  · have h1:y<x:=UInt8.lt_iff_toNat_lt.2 h
    have h2:¬ x<y:=fun k => by have:=UInt8.lt_iff_toNat_lt.1 k;omega
    have h3:x≠y:=fun k => by subst k;omega
    simp [h1,h2,h3]
theorem lt_or (x y:ByteArray):(Op.bytesLess x.toList y.toList || x.toList == y.toList)=!lt y x:=bl_or _ _
theorem lt_irrefl (x:ByteArray):lt x x=false:=by
 have h:=lt_or x x
 cases e:lt x x with
 | false => rfl
 | true => rw [e] at h;simp at h
def Rising (l:List Int) (b:Int):Prop:=∀ (j:Nat) (hj:j<l.length),1≤l[j]∧l[j]<b∧(∀ h:0<j,l[j-1]<l[j])
def ins:List Int→Int→List Int
 | [],n => [n]
 | x::l,n => if x<n then x::ins l n else n::x::l
def put (l:List Int) (n:Int):List Int:=if n∈l then l else ins l n
end Go.Proofs.YtdacanghbepjpaaGreatDoor.Ed
namespace Go.Proofs.YtdacanghbepjpaaGreatDoor.Var
abbrev Str:=List UInt8
def hi (n:Nat):Str:=if h:n<128 then [UInt8.ofNat (n+128)] else hi (n / 128)++[UInt8.ofNat (n % 128+128)]
termination_by n
decreasing_by omega
def put (n:Nat):Str:=if n<128 then [UInt8.ofNat n] else hi (n / 128)++[UInt8.ofNat (n % 128)]
theorem hi_small {n:Nat} (h:n<128):hi n=[UInt8.ofNat (n+128)]:=by rw [hi,dif_pos h]
theorem hi_big {n:Nat} (h:128≤n):hi n=hi (n / 128)++[UInt8.ofNat (n % 128+128)]:=by rw [hi,dif_neg (by omega)]
theorem hi_step {a d:Nat} (ha:0<a) (hd:d<128):hi (a*128+d)=hi a++[UInt8.ofNat (d+128)]:=by
 rw [hi_big (by omega),show (a*128+d) / 128=a by omega,show (a*128+d) % 128=d by omega]
theorem put_step {a d:Nat} (ha:0<a) (hd:d<128):put (a*128+d)=hi a++[UInt8.ofNat d]:=by
 unfold put
 rw [if_neg (by omega),show (a*128+d) / 128=a by omega,show (a*128+d) % 128=d by omega]
def rd:Nat→Nat→Str→Option (Nat×Nat)
 | 0,_,_ => none
 | _,_,[] => none
 | k+1,acc,c::r => if c.toNat<128 then some (acc*128+c.toNat,1) else (rd k (acc*128+(c.toNat-128)) r).map fun p => (p.1,p.2+1)
def get (s:Str) (p:Nat):Option (Nat×Nat):=if s[p]?=some 128 then none else (rd 9 0 (s.drop p)).map fun x => (x.1,p+x.2)
theorem ofNat_toNat {n:Nat} (h:n<256):(UInt8.ofNat n).toNat=n:=by
 rw [UInt8.toNat_ofNat'];omega
theorem toNat_ofNat (c:UInt8):UInt8.ofNat c.toNat=c:=by
 apply UInt8.toNat_inj.1
 exact ofNat_toNat c.toNat_lt
theorem hi_len_pos (n:Nat):0<(hi n).length:=by
 rw [hi];split <;> simp
theorem hi_pow:∀ (k n:Nat),0<k→n<128 ^ k→(hi n).length≤k
 | 0,_,h,_ => absurd h (by omega)
 | k+1,n,_,h => by
  by_cases h1:n<128
  · rw [hi_small h1];simp
  · rw [hi_big (by omega)]
    have hk:0<k:=by
     rcases Nat.eq_zero_or_pos k with rfl | hk
     · simp at h;omega
     · exact hk
    have:=hi_pow k (n / 128) hk (by rw [Nat.pow_succ] at h;omega)
    simp;omega
theorem rd_hi:∀ (n k acc:Nat) (r:Str),(hi n).length≤k→rd k acc (hi n++r)=(rd (k-(hi n).length) (acc*128 ^ (hi n).length+n) r).map fun p => (p.1,p.2+(hi n).length):=by
 intro n
 induction n using Nat.strongRecOn with
 | ind n ih =>
  intro k acc r hk
  by_cases h1:n<128
  · rw [hi_small h1] at hk ⊢
    obtain ⟨j,rfl⟩:∃ j,k=j+1:=⟨k-1,by simp at hk;omega⟩
    have e:(UInt8.ofNat (n+128)).toNat=n+128:=ofNat_toNat (by omega)
    simp only [List.cons_append,List.nil_append,rd,e,List.length_cons,List.length_nil]
    rw [if_neg (by omega)]
    simp
  · rw [hi_big (by omega)] at hk ⊢
    have hl:(hi (n / 128)++[UInt8.ofNat (n % 128+128)]).length=(hi (n / 128)).length+1:=by simp
    rw [hl] at hk ⊢
    rw [List.append_assoc,ih (n / 128) (by omega) k acc _ (by omega)]
    obtain ⟨j,hj⟩:∃ j,k-(hi (n / 128)).length=j+1:=⟨k-(hi (n / 128)).length-1,by omega⟩
    have e:(UInt8.ofNat (n % 128+128)).toNat=n % 128+128:=ofNat_toNat (by omega)
    rw [hj,show k-((hi (n / 128)).length+1)=j by omega]
    simp only [List.cons_append,List.nil_append,rd,e]
    rw [if_neg (by omega),Option.map_map]
    have e2:(acc*128 ^ (hi (n / 128)).length+n / 128)*128+(n % 128+128-128)=acc*128 ^ ((hi (n / 128)).length+1)+n:=by
     rw [Nat.pow_succ,← Nat.mul_assoc];omega
    rw [e2]
    cases rd j (acc*128 ^ ((hi (n / 128)).length+1)+n) r with
    | none => rfl
    | some p => simp only [Option.map_some,Function.comp_apply,Nat.add_assoc,Nat.add_comm 1]
theorem hi_head_ne {n:Nat} (h:0<n):∀ r,(hi n++r)[0]?≠some 128:=by
 induction n using Nat.strongRecOn with
 | ind n ih =>
  intro r
  by_cases h1:n<128
  · rw [hi_small h1]
    intro e
    simp at e
    have:=congrArg UInt8.toNat e
    rw [ofNat_toNat (by omega)] at this
    simp at this;omega
  · rw [hi_big (by omega),List.append_assoc]
    exact ih (n / 128) (by omega) (by omega) _
theorem put_head_ne (n:Nat) (r:Str):(put n++r)[0]?≠some 128:=by
 unfold put
 split
 · intro e
   simp at e
   have:=congrArg UInt8.toNat e
   rw [ofNat_toNat (by omega)] at this
   simp at this;omega
 · rw [List.append_assoc];exact hi_head_ne (by omega) _
theorem rd_put {n:Nat} (h:n<128 ^ 9) (r:Str):rd 9 0 (put n++r)=some (n,(put n).length):=by
 unfold put
 split
 · rename_i h1
   have e:(UInt8.ofNat n).toNat=n:=ofNat_toNat (by omega)
   simp only [List.cons_append,List.nil_append,rd,e]
   rw [if_pos h1];simp
 · rename_i h1
   have hl:(hi (n / 128)).length≤8:=hi_pow 8 (n / 128) (by omega) (by rw [show (128:Nat) ^ 9=128 ^ 8*128 from rfl] at h;omega)
   rw [List.append_assoc,rd_hi (n / 128) 9 0 _ (by omega)]
   obtain ⟨j,hj⟩:∃ j,9-(hi (n / 128)).length=j+1:=⟨9-(hi (n / 128)).length-1,by omega⟩
   have e:(UInt8.ofNat (n % 128)).toNat=n % 128:=ofNat_toNat (by omega)
   rw [hj]
   simp only [List.cons_append,List.nil_append,rd,e]
   rw [if_pos (by omega)]
   simp only [Option.map_some,Nat.zero_mul,Nat.zero_add,List.length_append,List.length_cons,List.length_nil]
   congr 2
   · omega
   · omega
theorem get_put {n:Nat} (h:n<128 ^ 9) (a r:Str):get (a++put n++r) a.length=some (n,a.length+(put n).length):=by
 unfold get
 have e:(a++put n++r)[a.length]?=(put n++r)[0]?:=by
  rw [List.append_assoc,List.getElem?_append_right (by omega),Nat.sub_self]
 rw [e,if_neg (put_head_ne n r),List.append_assoc,List.drop_left,rd_put h]
 rfl
theorem rd_back:∀ (k acc:Nat) (l:Str) (n c:Nat),0<acc→rd k acc l=some (n,c)→hi acc++l.take c=put n∧c≤l.length∧c≤k∧n<(acc+1)*128 ^ k
 | 0,_,_,_,_,_,h => by cases h
 | _+1,_,[],_,_,_,h => by cases h
 | k+1,acc,x::r,n,c,ha,h => by
  have hx:=x.toNat_lt
  unfold rd at h
  split at h
  · rename_i h1
    injection h with h
    injection h with e1 e2
    subst e1 e2
    refine ⟨?_,by simp,by omega,?_⟩
    · rw [put_step ha h1,toNat_ofNat];simp
    · have:1≤128 ^ k:=Nat.pow_pos (by omega)
      rw [Nat.pow_succ]
      have:(acc+1)*(128 ^ k*128)=(acc+1)*128*128 ^ k:=by rw [Nat.mul_comm (128 ^ k),Nat.mul_assoc]
      rw [this]
      have h3:acc*128+x.toNat<(acc+1)*128:=by omega
      exact Nat.lt_of_lt_of_le h3 (Nat.le_mul_of_pos_right _ (by omega))
  · rename_i h1
    cases hr:rd k (acc*128+(x.toNat-128)) r with
    | none => rw [hr] at h;cases h
    | some p =>
     obtain ⟨n',c'⟩:=p
     rw [hr] at h
     simp only [Option.map_some,Option.some.injEq,Prod.mk.injEq] at h
     obtain ⟨rfl,rfl⟩:=h
     obtain ⟨h2,h3,h4,h5⟩:=rd_back k _ r n' c' (by omega) hr
     refine ⟨?_,by simp;omega,by omega,?_⟩
     · rw [hi_step ha (by omega),show x.toNat-128+128=x.toNat by omega,toNat_ofNat] at h2
       rw [List.take_succ_cons,← h2];simp
     · refine Nat.lt_of_lt_of_le h5 ?_
       rw [Nat.pow_succ,Nat.mul_comm (128 ^ k),← Nat.mul_assoc]
       exact Nat.mul_le_mul_right _ (by omega)
theorem get_back {s:Str} {p n e:Nat} (h:get s p=some (n,e)):e≤s.length∧p<e∧e≤p+9∧(s.drop p).take (e-p)=put n∧n<128 ^ 9:=by
 unfold get at h
 split at h
 · cases h
 · rename_i hne
   cases hr:rd 9 0 (s.drop p) with
   | none => rw [hr] at h;cases h
   | some q =>
    obtain ⟨n',c⟩:=q
    rw [hr] at h
    simp only [Option.map_some,Option.some.injEq,Prod.mk.injEq] at h
    obtain ⟨rfl,rfl⟩:=h
    cases hd:s.drop p with
    | nil => rw [hd] at hr;cases hr
    | cons x r =>
     have hpl:p<s.length:=by
      rcases Nat.lt_or_ge p s.length with h | h
      · exact h
      · rw [List.drop_eq_nil_iff.2 h] at hd;cases hd
     have hlen:(s.drop p).length=s.length-p:=List.length_drop
     rw [hd] at hr hlen
     have hx0:s[p]?=some x:=by
      have:(s.drop p)[0]?=some x:=by rw [hd];rfl
      rwa [List.getElem?_drop,Nat.add_zero] at this
     have hx:=x.toNat_lt
     simp only [List.length_cons] at hlen
     unfold rd at hr
     split at hr
     · rename_i h1
       simp only [Option.some.injEq,Prod.mk.injEq] at hr
       obtain ⟨e1,rfl⟩:=hr
       obtain rfl:n'=x.toNat:=by omega
       refine ⟨by omega,by omega,by omega,?_,Nat.lt_of_lt_of_le h1 (by decide)⟩
       rw [show p+1-p=1 by omega]
       unfold put
       rw [if_pos h1,toNat_ofNat];rfl
     · rename_i h1
       cases hr2:rd 8 (0*128+(x.toNat-128)) r with
       | none => rw [hr2] at hr;cases hr
       | some q =>
        obtain ⟨n2,c2⟩:=q
        rw [hr2] at hr
        simp only [Option.map_some,Option.some.injEq,Prod.mk.injEq] at hr
        obtain ⟨rfl,rfl⟩:=hr
        have hx128:x.toNat≠128:=by
         intro e
         rw [hx0] at hne
         exact hne (by rw [← toNat_ofNat x,e];rfl)
        rw [Nat.zero_mul,Nat.zero_add] at hr2
        obtain ⟨h2,h3,h4,h5⟩:=rd_back 8 _ r n2 c2 (by omega) hr2
        refine ⟨by omega,by omega,by omega,?_,?_⟩
        · rw [show p+(c2+1)-p=c2+1 by omega,List.take_succ_cons,← h2,hi_small (by omega),show x.toNat-128+128=x.toNat by omega,toNat_ofNat];rfl
        · refine Nat.lt_of_lt_of_le h5 ?_
          rw [show (128:Nat) ^ 9=128*128 ^ 8 from rfl]
          exact Nat.mul_le_mul_right _ (by omega)
theorem pow9:(128:Nat) ^ 9=9223372036854775808:=by decide
theorem put_len_le {n:Nat} (h:n<128 ^ 9):(put n).length≤9:=by
 unfold put
 split
 · simp
 · have:=hi_pow 8 (n / 128) (by omega) (by rw [show (128:Nat) ^ 9=128 ^ 8*128 from rfl] at h;omega)
   simp;omega
end Go.Proofs.YtdacanghbepjpaaGreatDoor.Var
namespace Go.Proofs.YtdacanghbepjpaaGreatDoor.Var
theorem hi_pow_le:∀ (k n:Nat),0<k→128 ^ k≤n→k+1≤(hi n).length
 | 0,_,h,_ => absurd h (by omega)
 | k+1,n,_,h => by
  have h128:128≤n:=Nat.le_trans (Nat.le_trans (by decide) (Nat.pow_le_pow_right (by decide:0<128) (show 1≤k+1 by omega))) h
  rw [hi_big h128]
  have hl:=hi_len_pos (n / 128)
  rcases Nat.eq_zero_or_pos k with rfl | hk
  · simp;omega
  · have:=hi_pow_le k (n / 128) hk (by rw [Nat.pow_succ] at h;omega)
    simp;omega
theorem put_length_hi (n:Nat):(put n).length=(hi n).length:=by
 unfold put
 split
 · rename_i h;rw [hi_small h];rfl
 · rename_i h;rw [hi_big (show 128≤n by omega)];simp
theorem many_eq {n:Nat} (h:n<2 ^ 64):max 1 ((Lib.bitLen n+6) / 7)=(hi n).length:=by
 rcases Nat.eq_zero_or_pos n with rfl | hp
 · rw [hi_small (by omega)];rfl
 · obtain ⟨h1,h2,h3⟩:=Lib.bitLenAux_bounds 64 n h (by omega)
   change 1≤Lib.bitLen n at h1
   change 2 ^ (Lib.bitLen n-1)≤n at h2
   change n<2 ^ Lib.bitLen n at h3
   generalize Lib.bitLen n=b at *
   have e128:∀ k,(128:Nat) ^ k=2 ^ (7*k):=fun k => by rw [Nat.pow_mul]
   have hup:(hi n).length≤(b+6) / 7:=by
    refine hi_pow _ n (by omega) (Nat.lt_of_lt_of_le h3 ?_)
    rw [e128]
    exact Nat.pow_le_pow_right (by decide) (by omega)
   have hdn:(b+6) / 7≤(hi n).length:=by
    rcases Nat.lt_or_ge 1 ((b+6) / 7) with hb | hb
    · have:=hi_pow_le ((b+6) / 7-1) n (by omega) (by
       refine Nat.le_trans ?_ h2
       rw [e128]
       exact Nat.pow_le_pow_right (by decide) (by omega))
      omega
    · have:=hi_len_pos n;omega
   omega
theorem hi_get:∀ (n i:Nat) (h:i<(hi n).length),(hi n)[i]=UInt8.ofNat (n / 128 ^ ((hi n).length-1-i) % 128+128):=by
 intro n
 induction n using Nat.strongRecOn with
 | ind n ih =>
  intro i h
  by_cases h1:n<128
  · have e:=hi_small h1
    have hl:(hi n).length=1:=by rw [e];rfl
    obtain rfl:i=0:=by omega
    simp only [hl,Nat.sub_self,Nat.pow_zero,Nat.div_one]
    rw [Nat.mod_eq_of_lt h1]
    simp only [e,List.getElem_cons_zero]
  · have e:=hi_big (show 128≤n by omega)
    have hl:(hi n).length=(hi (n / 128)).length+1:=by rw [e];simp
    rw [List.getElem_of_eq e]
    by_cases hi':i<(hi (n / 128)).length
    · rw [List.getElem_append_left hi',ih (n / 128) (by omega) i hi',hl]
      congr 3
      rw [Nat.div_div_eq_div_mul,← Nat.pow_succ']
      congr 2
      omega
    · rw [List.getElem_append_right (by omega)]
      have hie:i=(hi (n / 128)).length:=by omega
      simp only [List.getElem_singleton]
      rw [show (hi n).length-1-i=0 by omega];simp
theorem put_hi (n:Nat):put n=(hi n).set ((hi n).length-1) (UInt8.ofNat (n % 128)):=by
 unfold put
 split
 · rename_i h;rw [hi_small h,Nat.mod_eq_of_lt h];rfl
 · rename_i h
   rw [hi_big (show 128≤n by omega)]
   simp
def putI (n:Int):Str:=if n<0 then [] else put n.toNat
def part (n i:Nat):Str:=(hi n).take i++List.replicate ((hi n).length-i) 0
theorem part_length (n i:Nat) (h:i≤(hi n).length):(part n i).length=(hi n).length:=by unfold part;simp;omega
theorem part_zero (n:Nat):part n 0=List.replicate (hi n).length 0:=by unfold part;simp
theorem part_end (n:Nat):part n (hi n).length=hi n:=by unfold part;simp
theorem part_set (n i:Nat) (h:i<(hi n).length):(part n i).set i ((hi n)[i])=part n (i+1):=by
 unfold part
 have hl:((hi n).take i).length=i:=by rw [List.length_take];omega
 rw [List.set_append_right _ _ (by omega),hl,Nat.sub_self]
 obtain ⟨m,hm⟩:∃ m,(hi n).length-i=m+1:=⟨(hi n).length-i-1,by omega⟩
 rw [hm,List.replicate_succ,List.set_cons_zero,show (hi n).length-(i+1)=m by omega,List.take_succ_eq_append_getElem h,List.append_assoc]
 rfl
end Go.Proofs.YtdacanghbepjpaaGreatDoor.Var
namespace Go.Proofs.YtdacanghbepjpaaGreatDoor.Var
def fold (acc:Nat) (l:Str):Nat:=l.foldl (fun a c => a*128+c.toNat % 128) acc
theorem fold_snoc (acc:Nat) (l:Str) (c:UInt8):fold acc (l++[c])=fold acc l*128+c.toNat % 128:=by unfold fold;rw [List.foldl_append];rfl
theorem fold_lt':∀ (l:Str) (acc:Nat),fold acc l<(acc+1)*128 ^ l.length
 | [],acc => by simp [fold]
 | c::r,acc => by
  have h:=fold_lt' r (acc*128+c.toNat % 128)
  have hc:=Nat.mod_lt c.toNat (show 0<128 by decide)
  have e:fold acc (c::r)=fold (acc*128+c.toNat % 128) r:=rfl
  rw [e,List.length_cons,Nat.pow_succ,Nat.mul_comm (128 ^ r.length),← Nat.mul_assoc]
  exact Nat.lt_of_lt_of_le h (Nat.mul_le_mul_right _ (by omega))
theorem fold_lt (l:Str):fold 0 l<128 ^ l.length:=by have:=fold_lt' l 0;omega
theorem rd_all:∀ (k acc:Nat) (l:Str),(∀ (j:Nat) (hj:j<l.length),128≤(l[j]).toNat)→rd k acc l=none
 | 0,_,_,_ => rfl
 | _+1,_,[],_ => rfl
 | k+1,acc,c::r,h => by
  rw [rd,if_neg (by have:=h 0 (by simp);simp at this;omega),rd_all k _ r fun j hj => by have:=h (j+1) (by simpa using hj);simpa using this]
  rfl
theorem rd_run:∀ (e k acc:Nat) (l:Str) (he:e<l.length),(∀ (j:Nat) (hj:j<l.length),j<e→128≤(l[j]).toNat)→(l[e]).toNat<128→rd k acc l=if e<k then some (fold acc (l.take (e+1)),e+1) else none
 | e,0,_,_,_,_,_ => by rw [if_neg (by omega)];rfl
 | _,_+1,_,[],he,_,_ => absurd he (by simp)
 | 0,k+1,acc,c::r,_,_,h2 => by
  simp at h2
  rw [rd,if_pos h2,if_pos (by omega)]
  simp [fold,Nat.mod_eq_of_lt h2]
 | e+1,k+1,acc,c::r,he,h1,h2 => by
  have h0:=h1 0 (by simp) (by omega)
  simp only [List.getElem_cons_zero] at h0
  have hc:=c.toNat_lt
  rw [rd,if_neg (by omega),rd_run e k _ r (by simpa using he) (fun j hj hje => by have:=h1 (j+1) (by simpa using hj) (by omega);simpa using this) (by simpa using h2)]
  by_cases hek:e<k
  · rw [if_pos hek,if_pos (by omega)]
    simp only [Option.map_some,List.take_succ_cons,fold,List.foldl_cons]
    rw [show c.toNat-128=c.toNat % 128 by omega]
  · rw [if_neg hek,if_neg (by omega)];rfl
theorem get_all {s:Str} {p:Nat} (h:∀ (j:Nat) (hj:j<s.length),p≤j→128≤(s[j]).toNat):get s p=none:=by
 unfold get
 rw [rd_all 9 0 _ fun j hj => by rw [List.getElem_drop];exact h _ _ (by omega)]
 split <;> rfl
theorem get_far {s:Str} {p e:Nat} (h:∀ (j:Nat) (hj:j<s.length),p≤j→j<e→128≤(s[j]).toNat) (h8:8<e-p):get s p=none:=by
 unfold get
 have:rd 9 0 (s.drop p)=none:=by
  have key:∀ (k acc:Nat) (l:Str),(∀ (j:Nat) (hj:j<l.length),j<k→128≤(l[j]).toNat)→rd k acc l=none:=by
   intro k
   induction k with
   | zero => intro _ _ _;rfl
   | succ k ih =>
    intro acc l hl
    cases l with
    | nil => rfl
    | cons c r =>
     rw [rd,if_neg (by have:=hl 0 (by simp) (by omega);simp at this;omega),ih _ r fun j hj hjk => by have:=hl (j+1) (by simpa using hj) (by omega);simpa using this]
     rfl
  exact key 9 0 _ fun j hj hj9 => by rw [List.getElem_drop];exact h _ _ (by omega) (by omega)
 rw [this]
 split <;> rfl
theorem get_run {s:Str} {p e:Nat} (hp:p≤e) (he:e<s.length) (h:∀ (j:Nat) (hj:j<s.length),p≤j→j<e→128≤(s[j]).toNat) (h2:(s[e]).toNat<128) (h8:e-p≤8) :
  get s p=if put (fold 0 ((s.drop p).take (e-p+1)))=(s.drop p).take (e-p+1) then some (fold 0 ((s.drop p).take (e-p+1)),e+1) else none:=by
 have hr:=rd_run (e-p) 9 0 (s.drop p) (by rw [List.length_drop];omega) (fun j hj hje => by rw [List.getElem_drop];exact h _ _ (by omega) (by omega)) (by rw [List.getElem_drop];simpa [show p+(e-p)=e by omega] using h2)
 rw [if_pos (by omega)] at hr
 by_cases h128:s[p]?=some 128
 · have hg:get s p=none:=by unfold get;rw [if_pos h128]
   rw [hg,if_neg]
   intro eq
   have hh:=put_head_ne (fold 0 ((s.drop p).take (e-p+1))) []
   rw [List.append_nil,eq,List.getElem?_take,if_pos (by omega),List.getElem?_drop,Nat.add_zero] at hh
   exact hh h128
 · have hg:get s p=some (fold 0 ((s.drop p).take (e-p+1)),e+1):=by
    unfold get
    rw [if_neg h128,hr]
    simp only [Option.map_some]
    rw [show p+(e-p+1)=e+1 by omega]
   obtain ⟨_,_,_,h5,_⟩:=get_back hg
   rw [show e+1-p=e-p+1 by omega] at h5
   rw [hg,if_pos h5.symm]
end Go.Proofs.YtdacanghbepjpaaGreatDoor.Var
namespace Go.Proofs.YtdacanghbepjpaaGreatDoor.Ed
set_option linter.unusedSimpArgs false
set_option linter.unusedVariables false
abbrev Str:=List UInt8
def pn (n:Int):Str:=Var.putI (max n 0)
def encL (l:List Int):Str:=pn l.length++l.flatMap pn
def encT (t:Str):Str:=pn t.length++t
def encE (e:Edit):Str:=pn e.kind++(pn e.at_++(pn e.file++(encL e.files++encT e.key.data.toList)))
def enc (l:List Edit):Str:=pn l.length++l.flatMap encE
def encB (t:Tab):Str:=encT t.frm.data.toList++encL t.tabs
def encS (s:St):Str:=pn s.log++(pn s.next++(pn s.l.length++s.l.flatMap encB))
def txt (s:Str) (p:Nat):Option (Str×Nat):=match Var.get s p with
 | none => none
 | some (n,e) => if n≤s.length-e then some ((s.drop e).take n,e+n) else none
def runL (s:Str):Nat→Nat→List Int→Option (List Int×Nat)
 | 0,p,acc => some (acc,p)
 | k+1,p,acc => match Var.get s p with
  | none => none
  | some (n,e) => runL s k e (acc++[(n:Int)])
def lst (s:Str) (p:Nat):Option (List Int×Nat):=match Var.get s p with
 | none => none
 | some (k,e) => runL s k e []
def tab (s:Str) (p:Nat):Option (Tab×Nat):=match txt s p with
 | none => none
 | some (t,p) => match lst s p with
  | none => none
  | some (l,p) => some (⟨⟨t.toArray⟩,l⟩,p)
def runT (s:Str):Nat→Nat→List Tab→Option (List Tab×Nat)
 | 0,p,acc => some (acc,p)
 | k+1,p,acc => match tab s p with
  | none => none
  | some (x,e) => runT s k e (acc++[x])
theorem pow9':(128:Nat) ^ 9=9223372036854775808:=Var.pow9
theorem get_pn {n:Int} (h0:0≤n) (h:n<9223372036854775808) (a r:Str):Var.get (a++(pn n++r)) a.length=some (n.toNat,(a++pn n).length):=by
 have e:pn n=Var.put n.toNat:=by unfold pn;rw [Int.max_eq_left h0];unfold Var.putI;rw [if_neg (by omega)]
 rw [e,← List.append_assoc,Var.get_put (by rw [pow9'];omega),List.length_append]
theorem get_nat {n:Nat} (h:(n:Int)<9223372036854775808) (a r:Str):Var.get (a++(pn n++r)) a.length=some (n,(a++pn n).length):=by
 have:=get_pn (n:=n) (by omega) h a r
 simpa using this
theorem txt_enc (t a r:Str) (h:(t.length:Int)<9223372036854775808):txt (a++(encT t++r)) a.length=some (t,(a++encT t).length):=by
 unfold txt encT
 rw [List.append_assoc,get_nat h]
 simp only
 have e:a++(pn t.length++(t++r))=(a++pn t.length)++(t++r):=by rw [List.append_assoc]
 rw [e]
 rw [if_pos (by simp only [List.length_append];omega),List.drop_left,List.take_left]
 simp only [List.length_append]
 congr 2
 omega
end Go.Proofs.YtdacanghbepjpaaGreatDoor.Ed
namespace Go.Proofs.YtdacanghbepjpaaGreatDoor.Jou
set_option linter.unusedSimpArgs false
set_option linter.unusedVariables false
abbrev Str:=List UInt8
structure Cell where
 key:ByteArray
 seq:Int
 val:ByteArray
def May (c:Cell):Prop:=c.key.size≠0∧c.key.size≤64∧0≤c.seq∧c.val.size≤128
instance (c:Cell):Decidable (May c):=by unfold May;infer_instance
def encC (c:Cell):Str:=Ed.encT c.key.data.toList++(Ed.pn c.seq++Ed.encT c.val.data.toList)
def enc (l:List Cell):Str:=l.flatMap encC
def one (s:Str) (p:Nat):Option (Cell×Nat):=match Ed.txt s p with
 | none => none
 | some (k,p) => match Var.get s p with
  | none => none
  | some (n,p) => match Ed.txt s p with
   | none => none
   | some (v,p) => if May ⟨⟨k.toArray⟩,n,⟨v.toArray⟩⟩ then some (⟨⟨k.toArray⟩,n,⟨v.toArray⟩⟩,p) else none
def decR (s:Str):Nat→Nat→List Cell→Option (List Cell)
 | 0,p,acc => if p<s.length then none else some acc
 | f+1,p,acc => if p<s.length then (match one s p with | none => none | some (c,e) => decR s f e (acc++[c])) else some acc
def dec (s:Str):Option (List Cell):=decR s s.length 0 []
theorem pn_nat (n:Nat):Ed.pn n=Var.put n:=by
 unfold Ed.pn Var.putI
 rw [if_neg (by omega)]
 congr 1
 omega
end Go.Proofs.YtdacanghbepjpaaGreatDoor.Jou
namespace Go.Proofs.YtdacanghbepjpaaGreatDoor.Sp
set_option linter.unusedSimpArgs false
set_option linter.unusedVariables false
abbrev Str:=List UInt8
structure Span where
 trace:Int
 id:Int
 parent:Int
 service:ByteArray
 host:ByteArray
 start:Int
 dur:Int
 note:ByteArray
def NameOk (s:ByteArray):Prop:=1≤s.size∧s.size≤12∧∀ c∈s.data.toList,33≤c.toNat∧c.toNat≤126
instance (s:ByteArray):Decidable (NameOk s):=by unfold NameOk;infer_instance
structure May (s:Span):Prop where
 trace:1≤s.trace∧s.trace≤2147483647
 id:1≤s.id∧s.id≤2147483647
 parent:0≤s.parent∧s.parent≤2147483647
 start:0≤s.start∧s.start≤1073741824
 dur:0≤s.dur∧s.dur≤1073741824
 service:NameOk s.service
 host:NameOk s.host
 note:s.note.size≤24
theorem may_iff (s:Span):May s↔(1≤s.trace∧s.trace≤2147483647)∧(1≤s.id∧s.id≤2147483647)∧(0≤s.parent∧s.parent≤2147483647)∧(0≤s.start∧s.start≤1073741824)∧(0≤s.dur∧s.dur≤1073741824)∧NameOk s.service∧NameOk s.host∧s.note.size≤24 :=
 ⟨fun ⟨a,b,c,d,e,f,g,h⟩ => ⟨a,b,c,d,e,f,g,h⟩,fun ⟨a,b,c,d,e,f,g,h⟩ => ⟨a,b,c,d,e,f,g,h⟩⟩
instance (s:Span):Decidable (May s):=decidable_of_iff' _ (may_iff s)
def enc (s:Span):Str:=Ed.pn s.trace++(Ed.pn s.id++(Ed.pn s.parent++(Ed.pn s.start++(Ed.pn s.dur++(Ed.encT s.service.data.toList++(Ed.encT s.host.data.toList++Ed.encT s.note.data.toList))))))
def nums (s:Str) (p:Nat):Option ((Nat×Nat×Nat×Nat×Nat)×Nat):=match Var.get s p with
 | none => none
 | some (a,p) => match Var.get s p with
  | none => none
  | some (b,p) => match Var.get s p with
   | none => none
   | some (c,p) => match Var.get s p with
    | none => none
    | some (d,p) => match Var.get s p with
     | none => none
     | some (e,p) => some ((a,b,c,d,e),p)
def txts (s:Str) (p:Nat):Option ((Str×Str×Str)×Nat):=match Ed.txt s p with
 | none => none
 | some (a,p) => match Ed.txt s p with
  | none => none
  | some (b,p) => match Ed.txt s p with
   | none => none
   | some (c,p) => some ((a,b,c),p)
def take (s:Str) (p:Nat):Option (Span×Nat):=match nums s p with
 | none => none
 | some ((a,b,c,d,e),p) => match txts s p with
  | none => none
  | some ((x,y,z),p) => some (⟨a,b,c,⟨x.toArray⟩,⟨y.toArray⟩,d,e,⟨z.toArray⟩⟩,p)
def dec (s:Str):Option Span:=match take s 0 with
 | none => none
 | some (x,e) => if e=s.length∧May x then some x else none
theorem size_toList (s:ByteArray):s.data.toList.length=s.size:=by simp
theorem toList_mk (s:ByteArray):(⟨s.data.toList.toArray⟩:ByteArray)=s:=by cases s;simp
theorem NameOk.len {s:ByteArray} (h:NameOk s):(s.data.toList.length:Int)<9223372036854775808:=by rw [size_toList];have:=h.2.1;omega
theorem nums_back {s:Str} {p e:Nat} {a b c d f:Nat} (h:nums s p=some ((a,b,c,d,f),e)):(s.drop p).take (e-p)=Ed.pn a++(Ed.pn b++(Ed.pn c++(Ed.pn d++Ed.pn f)))∧p<e∧e≤s.length:=by
 unfold nums at h
 split at h
 · cases h
 rename_i _ p1 h1
 split at h
 · cases h
 rename_i _ p2 h2
 split at h
 · cases h
 rename_i _ p3 h3
 split at h
 · cases h
 rename_i _ p4 h4
 split at h
 · cases h
 rename_i _ p5 h5
 injection h with h
 injection h with hc he
 injection hc with x1 hc
 injection hc with x2 hc
 injection hc with x3 hc
 injection hc with x4 x5
 subst x1 x2 x3 x4 x5 he
 obtain ⟨a1,a2,_,a4,_⟩:=Var.get_back h1
 obtain ⟨b1,b2,_,b4,_⟩:=Var.get_back h2
 obtain ⟨c1,c2,_,c4,_⟩:=Var.get_back h3
 obtain ⟨d1,d2,_,d4,_⟩:=Var.get_back h4
 obtain ⟨f1,f2,_,f4,_⟩:=Var.get_back h5
 refine ⟨?_,by omega,f1⟩
 rw [Jou.pn_nat,Jou.pn_nat,Jou.pn_nat,Jou.pn_nat,Jou.pn_nat,← a4,← b4,← c4,← d4,← f4]
 rw [show p5-p=(p1-p)+((p2-p1)+((p3-p2)+((p4-p3)+(p5-p4)))) by omega,List.take_add,List.drop_drop,show p+(p1-p)=p1 by omega,List.take_add,List.drop_drop,show p1+(p2-p1)=p2 by omega,List.take_add,List.drop_drop,show p2+(p3-p2)=p3 by omega,List.take_add,List.drop_drop,show p3+(p4-p3)=p4 by omega]
theorem pn_len {n:Int} (h0:0≤n) (h:n≤2147483647):1≤(Ed.pn n).length∧(Ed.pn n).length≤5:=by
 have e:Ed.pn n=Var.put n.toNat:=by unfold Ed.pn;rw [Int.max_eq_left h0];unfold Var.putI;rw [if_neg (by omega)]
 rw [e,Var.put_length_hi]
 exact ⟨Var.hi_len_pos _,Var.hi_pow 5 _ (by omega) (by omega)⟩
theorem encT_len (t:Str) (h:t.length≤24):1≤(Ed.encT t).length∧(Ed.encT t).length≤29:=by
 unfold Ed.encT
 have:=pn_len (n:=t.length) (by omega) (by omega)
 rw [List.length_append]
 omega
theorem enc_len {s:Span} (h:May s):8≤(enc s).length∧(enc s).length≤112:=by
 obtain ⟨h1,h2,h3,h4,h5,h6,h7,h8⟩:=h
 have a1:=pn_len (n:=s.trace) (by omega) (by omega)
 have a2:=pn_len (n:=s.id) (by omega) (by omega)
 have a3:=pn_len (n:=s.parent) (by omega) (by omega)
 have a4:=pn_len (n:=s.start) (by omega) (by omega)
 have a5:=pn_len (n:=s.dur) (by omega) (by omega)
 have b1:=encT_len s.service.data.toList (by rw [size_toList];have:=h6.2.1;omega)
 have b2:=encT_len s.host.data.toList (by rw [size_toList];have:=h7.2.1;omega)
 have b3:=encT_len s.note.data.toList (by rw [size_toList];omega)
 unfold enc
 simp only [List.length_append]
 omega
end Go.Proofs.YtdacanghbepjpaaGreatDoor.Sp
namespace Go
section
variable {P:Program} {ops:Array Oper} {md:Region.Mode} {C:World→Prop}
def wpAnyLC (P:Program) (md:Region.Mode) (ops:Array Oper) (C:World→Prop) (n:Nat) (L:Array Bool→Act→Prop):Nat→Array Bool→Act→Prop
 | 0,listed,a => L listed a
 | f+1,listed,a =>
  Region.ready md ops listed≠[]∧∀ i∈Region.ready md ops listed,i<n∧qOp P ops C i (wpAnyLC P md ops C n L f (listed.setIfInBounds i true)) a
theorem wpAny_of_headC {n g:Nat} {L:Array Bool→Act→Prop} {Q':Exit→Act→World→Prop} (hL:∀ listed a w,C w→L listed a→wpAny P md ops Q' g listed a w) :
  ∀ (f:Nat) (listed:Array Bool) (a:Act) (w:World),C w→wpAnyLC P md ops C n L f listed a→wpAny P md ops Q' (f+g) listed a w
 | 0,listed,a,w,hw,h => by rw [Nat.zero_add];exact hL _ _ _ hw h
 | f+1,listed,a,w,hw,h => by
  rw [show f+1+g=(f+g)+1 by omega]
  exact ⟨fun h0 => absurd h0 h.1,fun i hi => wpOp_of_qOp hw (fun a' w' hw' h' => wpAny_of_headC hL f _ a' w' hw' h') (h.2 i hi).2⟩
theorem wpAnyLC_first {n i:Nat} {oi:Oper} {v:Value} {L:Array Bool→Act→Prop} (hi:ops[i]?=some oi) (hsel:∀ (j:Nat) (o:Oper) cs b,ops[j]?=some o→o.op≠.select cs b)
  (hs:Region.sinkB md ops n=true) (hc:Region.chainB md ops n=true) (hn:n<ops.size) (hin:i<n)
  (hdone:∀ listed a,L listed a→∀ j∈Region.ready md ops listed,n≤j) :
  ∀ (f:Nat) (listed:Array Bool) (a:Act),HeadInv md ops n listed →
   (∀ j oj,ops[j]?=some oj→j≠i→listed.getD j true=false→(∀ e∈oj.after,Region.binds md e=true→e.on≠i)→oi.apart ops oj=true) →
   i∈Region.ready md ops listed→YieldsIn P ops C oi v a →
   wpAnyLC P md ops C n L f (listed.setIfInBounds i true) (a.put oi.dst v)→wpAnyLC P md ops C n L (f+1) listed a:=by
 intro f
 induction f with
 | zero =>
  intro listed a inv _ hr hy H
  have hun:=(mem_ready.1 hr).1
  refine ⟨fun h => (by rw [h] at hr;cases hr),fun j hj => ?_⟩
  have hjn:j<n:=by
   rcases Nat.lt_or_ge j n with h | h
   · exact h
   · exact absurd hj (tail_waits hs hc hn inv _ i rfl hin hun j h)
  refine ⟨hjn,?_⟩
  by_cases hji:j=i
  · subst hji;exact hy.qOp hi H
  · have:=hdone _ _ H j (ready_mono hj hji)
    omega
 | succ f ih =>
  intro listed a inv hfree hr hy H
  have hun:=(mem_ready.1 hr).1
  refine ⟨fun h => (by rw [h] at hr;cases hr),fun j hj => ?_⟩
  have hjn:j<n:=by
   rcases Nat.lt_or_ge j n with h | h
   · exact h
   · exact absurd hj (tail_waits hs hc hn inv _ i rfl hin hun j h)
  refine ⟨hjn,?_⟩
  by_cases hji:j=i
  · subst hji;exact hy.qOp hi H
  · have h1:=(H.2 j (ready_mono hj hji)).2
    obtain ⟨hjun,oj,hoj,hall⟩:=mem_ready.1 hj
    have hnot:∀ e∈oj.after,Region.binds md e=true→e.on≠i:=fun e he hb heq => by
     have h1:=hall e he hb
     rw [heq,getD_both hun] at h1
     cases h1
    have h2:=qOp_put hoj (hfree j oj hoj hji hjun hnot) (fun cs b => hsel i oi cs b hi) (fun cs b => hsel j oj cs b hoj) hy h1
    have hfree':∀ k ok,ops[k]?=some ok→k≠i→(listed.setIfInBounds j true).getD k true=false →
      (∀ e∈ok.after,Region.binds md e=true→e.on≠i)→oi.apart ops ok=true:=fun k ok hk hki hun hno => by
     refine hfree k ok hk hki ?_ hno
     by_cases hjk:j=k
     · subst hjk;exact hjun
     · rw [getD_set_ne true hjk] at hun;exact hun
    refine qOp_mono (fun a' h3 => ih (listed.setIfInBounds j true) a' (inv.set hj hjn) hfree' (ready_mono hr (Ne.symm hji)) h3.1 ?_) h2
    rw [Array.setIfInBounds_comm _ _ hji]
    exact h3.2
theorem wpAnyLC_lex {n g:Nat} {Lq:Act→Prop} (hsel:Region.noSelect ops=true) (hs:Region.sinkB md ops n=true) (hc:Region.chainB md ops n=true) (hn:n<ops.size) :
  ∀ (l:List Oper) (k:Nat) (listed:Array Bool) (a:Act),(∀ j,j<l.length→l[j]?=ops[k+j]?)→k+l.length=n→HeadInv md ops n listed →
  Region.lexHead md ops g l.length k listed=true→wpQuiet P ops C Lq l a →
  wpAnyLC P md ops C n (fun listed' a' => Region.seqB md ops g n listed'=true∧Lq a') l.length listed a
 | [],k,listed,a,_,hk,_,hB,h => by
  have:k=n:=by simpa using hk
  subst this
  exact ⟨by simpa [Region.lexHead] using hB,h⟩
 | o::l,k,listed,a,hl,hk,inv,hB,h => by
  have h0:ops[k]?=some o:=by simpa using (hl 0 (by simp)).symm
  simp only [List.length_cons,Region.lexHead,Bool.and_eq_true] at hB
  obtain ⟨⟨hr,hf⟩,hB'⟩:=hB
  have hkn:k<n:=by simp only [List.length_cons] at hk;omega
  have hr':k∈Region.ready md ops listed:=by simpa using hr
  have hst:qOp P ops C k (wpQuiet P ops C Lq l) a:=by unfold qOp;simp only [h0];exact h
  obtain ⟨v,hy,hK⟩:=yieldsIn_of_qOp h0 hst
  exact wpAnyLC_first h0 (Region.noSelect_spec hsel) hs hc hn hkn (fun listed' a' hL => seqB_ready hL.1) l.length listed a inv (Region.free_spec h0 hf) hr' hy
   (wpAnyLC_lex hsel hs hc hn l (k+1) _ _ (fun j hj => by have:=hl (j+1) (by simp;omega);simpa [Nat.add_assoc,Nat.add_comm 1 j] using this) (by simp only [List.length_cons] at hk;omega) (inv.set hr' hkn) hB' hK)
theorem wp_region_class_tail {id:Nat} {Q:Exit→Act→World→Prop} {a:Act} {w:World} {l:List Oper} (n:Nat) (hm:P.follows .mixedOrders=true) (hB:Region.lexTailB .any l.toArray n=true) (hC:C w.drew)
  (h:wpQuiet P l.toArray C (fun a' => ∀ w',C w'→wpList P l.toArray Q (l.drop n) a' w') (l.take n) a):(Code.region id l.toArray true).wp P Q a w:=by
 simp only [Region.lexTailB,Bool.and_eq_true,decide_eq_true_eq] at hB
 obtain ⟨⟨⟨⟨hsel,hn⟩,hs⟩,hc⟩,hlex⟩:=hB
 have hn':n<l.length:=by simpa using hn
 have htl:(l.take n).length=n:=by simp;omega
 have hdl:(l.drop n).length=l.toArray.size-n:=by simp
 have inv0:HeadInv .any l.toArray n (Array.replicate l.toArray.size false) :=
  ⟨by simp,fun j oj _ hl => (by rw [getD_replicate_false] at hl;cases hl),fun t _ ht => getD_in (by simpa using ht) (getD_replicate_false _ _)⟩
 have H:=wpAnyLC_lex (md:=.any) (g:=l.toArray.size-n) hsel hs hc hn (l.take n) 0 _ a (fun j hj => by
  have hj':j<n:=by rw [htl] at hj;exact hj
  simp [hj']) (by simpa using htl) inv0 (by rw [htl];exact hlex) h
 refine wp_region_any hm ?_
 have:=wpAny_of_headC (Q':=Q) (g:=l.toArray.size-n) (fun listed a' w' hw' hL => by
  have:=wpAny_of_seq (md:=.any) (Q':=Q) (l.drop n) n listed a' w' (fun j => by simp [List.getElem?_drop]) (by rw [hdl];exact hL.1) (hL.2 w' hw')
  rwa [hdl] at this) _ _ _ w.drew hC H
 rw [htl,show n+(l.toArray.size-n)=l.toArray.size by omega] at this
 exact this
end
structure Ext (w:World) where
 wd:World
 le:RowKit.Below w.heap.size w wd
instance (w:World):Nonempty (Ext w):=⟨⟨w,RowKit.Below.refl _ _⟩⟩
def InExt (w w':World):Prop:=∃ x:Ext w,w'=x.wd
theorem InExt.of {w w':World} (h:RowKit.Below w.heap.size w w'):InExt w w':=⟨⟨w',h⟩,rfl⟩
theorem InExt.drew (w:World):InExt w w.drew:=.of (RowKit.Below.refl _ _).drew
@[go_sem] theorem Ext.cell {w:World} (x:Ext w) (p:Addr) (h:(w.cell? p).isSome=true):x.wd.cell? p=w.cell? p:=by
 obtain ⟨u,hu⟩:=Option.isSome_iff_exists.1 h
 exact x.le.cell (World.block_lt_of_cell? w p hu)
theorem Calls.ext_of {P:Program} {f:FuncId} {args:Array Value} {w:World} {x:Ext w} {v:Value}
  (h:Calls P f args x.wd fun e w' => e=.returned v∧RowKit.Below x.wd.heap.size x.wd w'):Calls P f args x.wd fun e w'' => e=.returned v∧∃ y:Ext w,w''=y.wd :=
 h.mono fun _ _ ⟨he,hb⟩ => ⟨he,⟨_,x.le.trans (hb.mono x.le.size)⟩,rfl⟩
section
variable {P:Program} {id:Nat} {Q:Exit→Act→World→Prop} {a:Act} {w:World} {l:List Oper}
theorem wp_region_ext (hm:P.follows .mixedOrders=true) (hB:Region.lexB .any l.toArray=true)
  (h:∀ K:Act→Prop,(∀ a',(∀ x:Ext w,Q .normal a' x.wd)→K a')→wpQuiet P l.toArray (fun w' => ∃ x:Ext w,w'=x.wd) K l a):(Code.region id l.toArray true).wp P Q a w :=
 wp_region_quiet (C:=fun w' => ∃ x:Ext w,w'=x.wd) hm hB (InExt.drew w) (by
  have:=h (fun a' => ∀ w',(∃ x:Ext w,w'=x.wd)→Q .normal a' w') (by rintro a' h _ ⟨x,rfl⟩;exact h x)
  simpa using this)
theorem wp_region_ext_tail (n:Nat) (hm:P.follows .mixedOrders=true) (hB:Region.lexTailB .any l.toArray n=true)
  (h:∀ K:Act→Prop,(∀ a',(∀ x:Ext w,wpList P l.toArray Q (l.drop n) a' x.wd)→K a')→wpQuiet P l.toArray (fun w' => ∃ x:Ext w,w'=x.wd) K (l.take n) a):(Code.region id l.toArray true).wp P Q a w :=
 wp_region_class_tail (C:=fun w' => ∃ x:Ext w,w'=x.wd) n hm hB (InExt.drew w) (h _ (by rintro a' h _ ⟨x,rfl⟩;exact h x))
end
end Go
namespace Go.Proofs.YtdacanghbepjpaaGreatDoor.Cur
open Var (Str)
def May (a b:Int):Prop:=0≤a∧a≤2147483647∧0≤b∧b≤2147483647
instance (a b:Int):Decidable (May a b):=by unfold May;exact inferInstance
def enc (a b:Int):Str×Int:=if May a b then (67::(Var.put a.toNat++Var.put b.toNat),0) else ([],2)
def dec (s:Str):Option (Int×Int) :=
 if s[0]?=some 67 then
  match Var.get s 1 with
  | none => none
  | some (n,p) => match Var.get s p with
   | none => none
   | some (g,e) => if e=s.length∧May n g then some (n,g) else none
 else none
def decR (s:Str):(Int×Int)×Int:=match dec s with | some c => (c,0) | none => ((0,0),30)
theorem may_lt {n:Int} (h:0≤n∧n≤2147483647):n.toNat<128 ^ 9:=by rw [Var.pow9];omega
theorem enc_some {a b:Int} (h:May a b):enc a b=(67::(Var.put a.toNat++Var.put b.toNat),0):=by unfold enc;rw [if_pos h]
theorem enc_none {a b:Int} (h:¬ May a b):enc a b=([],2):=by unfold enc;rw [if_neg h]
theorem enc_length (a b:Int):(enc a b).1.length≤19:=by
 unfold enc
 split
 · rename_i h
   obtain ⟨h1,h2,h3,h4⟩:=h
   have:=Var.put_len_le (may_lt ⟨h1,h2⟩)
   have:=Var.put_len_le (may_lt ⟨h3,h4⟩)
   simp;omega
 · simp
end Go.Proofs.YtdacanghbepjpaaGreatDoor.Cur
namespace Go.Proofs.YtdacanghbepjpaaGreatDoor.Po
set_option linter.unusedSimpArgs false
set_option linter.unusedVariables false
abbrev Str:=List UInt8
def HostOk (n:Int):Prop:=0≤n∧n<4
def RecOk (n:Int):Prop:=0≤n∧n≤2147483647
instance (n:Int):Decidable (HostOk n):=by unfold HostOk;infer_instance
instance (n:Int):Decidable (RecOk n):=by unfold RecOk;infer_instance
def tx (x:Sp.Span):Str:=Ed.encT (Sp.enc x)
def bodyT (l:List Sp.Span):Str:=l.flatMap tx
theorem bodyT_cons (x:Sp.Span) (l:List Sp.Span):bodyT (x::l)=tx x++bodyT l:=rfl
theorem bodyT_snoc (l:List Sp.Span) (x:Sp.Span):bodyT (l++[x])=bodyT l++tx x:=by unfold bodyT;rw [List.flatMap_append];simp
def batchS (h f:Int) (l:List Sp.Span):Str:=66::(Ed.pn h++(Ed.pn f++(Ed.pn l.length++bodyT l)))
def ackS (h f m:Int):Str:=65::(Ed.pn h++(Ed.pn f++Ed.pn m))
structure AckOk (h f n:Int):Prop where
 host:HostOk h
 first:RecOk f
 le:f≤n
 next:RecOk n
def nums:Nat→Str→Option (List Nat×Str)
 | 0,s => some ([],s)
 | k+1,s => match Var.get s 0 with
  | none => none
  | some (n,p) => match nums k (s.drop p) with
   | none => none
   | some (l,r) => some (n::l,r)
theorem nums_pn {n:Int} (h1:0≤n) (h2:n<9223372036854775808) (k:Nat) (r:Str):nums (k+1) (Ed.pn n++r)=match nums k r with | none => none | some (l,q) => some (n.toNat::l,q):=by
 have h:=Ed.get_pn h1 h2 [] r
 simp only [List.nil_append,List.length_nil] at h
 simp only [nums,h,List.drop_left]
def decAck (s:Str):Option (Int×Int×Int) :=
 if s[0]?=some 65 then
  match nums 3 (s.drop 1) with
  | some ([a,b,c],[]) => if a<4∧b≤2147483647∧(c:Int)≤2147483647-(b:Int) then some ((a:Int),(b:Int),(b:Int)+(c:Int)) else none
  | _ => none
 else none
theorem decAck_ack {h f n:Int} (k:AckOk h f n):decAck (ackS h f (n-f))=some (h,f,n):=by
 obtain ⟨⟨h1,h2⟩,⟨f1,f2⟩,le,⟨n1,n2⟩⟩:=k
 unfold decAck ackS
 rw [if_pos (by simp)]
 simp only [List.drop_succ_cons,List.drop_zero]
 rw [nums_pn h1 (by omega),nums_pn f1 (by omega)]
 have e:Ed.pn (n-f)=Ed.pn (n-f)++[]:=by simp
 rw [e,nums_pn (by omega) (by omega)]
 simp only [nums]
 rw [if_pos (by omega)]
 simp only [Option.some.injEq,Prod.mk.injEq]
 omega
theorem decAck_ok {s:Str} {h f n:Int} (e:decAck s=some (h,f,n)):AckOk h f n:=by
 unfold decAck at e
 split at e
 · split at e
   · split at e
     · rename_i a b c _ hc
       simp only [Option.some.injEq,Prod.mk.injEq] at e
       obtain ⟨rfl,rfl,rfl⟩:=e
       exact ⟨⟨by omega,by omega⟩,⟨by omega,by omega⟩,by omega,⟨by omega,by omega⟩⟩
     · cases e
   · cases e
 · cases e
end Go.Proofs.YtdacanghbepjpaaGreatDoor.Po

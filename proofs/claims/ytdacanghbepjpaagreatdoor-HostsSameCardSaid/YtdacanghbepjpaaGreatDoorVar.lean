/- Numbers as bytes: written and read, walked, by the program and by the document. -/
import Derived.Test.YtdacanghbepjpaaGreatDoorM1
import Derived.Test.YtdacanghbepjpaaGreatDoorM3
import Derived.Test.YtdacanghbepjpaaGreatDoorLen64
namespace Go.Proofs.YtdacanghbepjpaaGreatDoor
set_option maxRecDepth 100000
open Go.RowKit
theorem OwnB.row' {w:World} {B:Nat} {v:Value} {l:List UInt8} (h:OwnB w B v l) (hl:0<l.length):∃ b cap,v=.slice (some ⟨b,0,none⟩) l.length cap∧B≤b∧BRow w b l:=by
 obtain ⟨_,h | ⟨g,cap,cur,hv,hg,hh,hn,hm,hs,ht⟩⟩:=h
 · omega
 · refine ⟨g,cap,hv,hg,cur,_,0,0,hh,.inr rfl,fun j hj => ?_⟩
   have e:(cur.toList.take (l.length*1))[j]?=(l.map byteV)[j]?:=by rw [ht]
   rw [Nat.mul_one,List.getElem?_take,if_pos hj,List.getElem?_map,List.getElem?_eq_getElem hj] at e
   rw [← Array.getElem?_toList,e]
   rfl
theorem or_flag:∀ x:Fin 256,bits BinOp.or IntKind.u8 ((x.val:Nat):Int) 128=((x.val % 128+128:Nat):Int):=by decide +kernel
theorem andNot_flag:∀ x:Fin 256,bits BinOp.andNot IntKind.u8 ((x.val:Nat):Int) 128=((x.val % 128:Nat):Int):=by decide +kernel
theorem or_digit (m k:Nat):bits BinOp.or IntKind.u8 ((m:Int) / 2 ^ (7*k) % 256) 128=((UInt8.ofNat (m / 128 ^ k % 128+128)).toNat:Int):=by
 have e:(m:Int) / 2 ^ (7*k) % 256=((m / 128 ^ k % 256:Nat):Int):=by
  rw [show (128:Nat) ^ k=2 ^ (7*k) by rw [Nat.pow_mul]]
  push_cast
  rfl
 rw [e,or_flag ⟨m / 128 ^ k % 256,Nat.mod_lt _ (by decide)⟩,Var.ofNat_toNat (by omega)]
 congr 1
 show m / 128 ^ k % 256 % 128+128=_
 omega
set_option maxHeartbeats 2000000 in
theorem put_any (n:Int) (w:World) (hn:-9223372036854775808≤n∧n≤9223372036854775807) :
  Calls Tryz.prog 131 #[.int .i64 n] w fun e w' => e=.returned (.string ⟨(Var.putI n).toArray⟩)∧Below w.heap.size w w':=by
 unfold Var.putI
 obtain ⟨hn1,hn2⟩:=hn
 by_cases hneg:n<0
 · rw [if_pos hneg]
   go_enter Tryz.func131,Tryz.ntmps131
   go_wp2_with fail
   go_ret
   exact ⟨rfl,Below.refl _ _⟩
 · rw [if_neg hneg]
   obtain ⟨m,rfl⟩:∃ m:Nat,n=m:=⟨n.toNat,by omega⟩
   rw [Int.toNat_natCast]
   have hmany:=Var.many_eq (show m<2 ^ 64 by omega)
   have hL:=Var.hi_len_pos m
   have hL9:(Var.hi m).length≤9:=by
    rw [← Var.put_length_hi]
    exact Var.put_len_le (by rw [Var.pow9];omega)
   obtain ⟨b,hb⟩:∃ b,b=Lib.bitLen m:=⟨_,rfl⟩
   rw [← hb] at hmany
   have hb64:b≤63:=by omega
   obtain ⟨L,hLL⟩:∃ L,L=(Var.hi m).length:=⟨_,rfl⟩
   rw [← hLL] at hmany hL hL9
   have hq:max 1 (((b:Int)+6) / 7)=(L:Int):=by omega
   have Hl:=Lib.hid (fun W:World => Tryz.bits_Len64 (m:Int) W (by omega) (by omega))
   rw [Int.toNat_natCast,← hb] at Hl
   have HLL:=Lib.hid hLL
   have Hq:=Lib.hid hq
   have hm0:(m:Int) % 18446744073709551616=m:=by omega
   clear hmany hq hb hLL hneg
   go_enter Tryz.func131,Tryz.ntmps131
   go_wp2_with fail
   refine (Hl.out _).mono ?_
   rintro e w1 ⟨rfl,rfl⟩
   have q1:IntKind.i64.wrap ((b:Int)+7)=(b:Int)+7:=IntWalk.i64_in _ ⟨by omega,by omega⟩
   have q2:(b:Int)+7-1=(b:Int)+6:=by omega
   have q3:(0:Int)≤(b:Int)+6:=by omega
   have q4:Int.tdiv ((b:Int)+6) 7=((b:Int)+6) / 7:=Int.tdiv_eq_ediv_of_nonneg (by omega)
   go_wp2_with (first | (refine wpList_make_full_bytes rfl _ _ rfl w1.heap.size .i64 .i64 _ _ L rfl rfl Hq.out Hq.out (by omega) (Nat.le_refl _) ?_;intro v1 w2 hown hbel;obtain ⟨g,cap,hv,hgb,hrow⟩:=hown.row' (by rw [List.length_replicate];omega);rw [List.length_replicate] at hv;subst hv;have Hrow:=Lib.hid hrow;have Hbel:=Lib.hid hbel;clear hrow hbel hown))
   simp only [Hq.out]
   clear q1 q2 q3 q4 Hl
   have Hat:BRow w2 g (Var.part m 0):=by rw [Var.part_zero,← HLL.out];exact Hrow.out
   clear Hrow Hq
   go_loopw [5,18] (fun _ v18 wr => ∃ i:Nat,v18=.int .i64 i∧i≤L∧BRow wr g (Var.part m i)∧Below w1.heap.size w1 wr) (fun _ v18 _ => L-(intOf v18).toNat)
   case atStart => exact ⟨0,rfl,Nat.zero_le _,Hat,Hbel.out⟩
   case round =>
    clear Hat Hbel
    obtain ⟨i,rfl,hi,hrow,hbel⟩:=hrel
    have Hrow:=Lib.hid hrow
    have Hbel:=Lib.hid hbel
    clear hbel
    have hpl:=Var.part_length m i (by rw [← HLL.out];exact hi)
    rw [← HLL.out] at hpl
    by_cases hlt:i<L
    · have q0:=hrow.cell i (by omega)
      have q1:=hrow.free i (by omega)
      have hlt':i<(Var.hi m).length:=by rw [← HLL.out];exact hlt
      have hs:=hrow.set i ((Var.hi m)[i])
      rw [Var.part_set m i hlt'] at hs
      have hget:=Var.hi_get m i hlt'
      rw [← HLL.out] at hget
      obtain ⟨k,hk⟩:∃ k:Nat,(L:Int)-1-i=k:=⟨L-1-i,by omega⟩
      have hkk:L-1-i=k:=by omega
      rw [hkk] at hget
      rw [hget] at hs
      have Hs:=Lib.hid hs
      generalize ((Var.part m i)[i]'(by omega))=old at q0
      have hk8:k≤8:=by omega
      have hi2:(i:Int)<L:=by omega
      clear hrow hs hget hkk hpl
      go_wp2_with fail
      rw [or_digit]
      refine ⟨⟨i+1,by go_num,by omega,Hs.out,Hbel.out.setCell (p:=⟨g,i,none⟩) hgb _⟩,?_⟩
      simp [intOf];omega
    · obtain rfl:i=L:=by omega
      obtain ⟨k,hk⟩:∃ k:Nat,(i:Int)-1=k:=⟨i-1,by omega⟩
      have hkn:i-1=k:=by omega
      have hpe:Var.part m i=Var.hi m:=by rw [HLL.out];exact Var.part_end m
      rw [hpe] at hrow
      have hkl:k<(Var.hi m).length:=by rw [← HLL.out];omega
      have q0:=hrow.cell k hkl
      have q1:=hrow.free k hkl
      have hget:=Var.hi_get m k hkl
      rw [← HLL.out,hkn,Nat.sub_self,Nat.pow_zero,Nat.div_one] at hget
      rw [hget,Var.ofNat_toNat (by omega)] at q0
      have hs:=hrow.set k (UInt8.ofNat (m % 128))
      have hph:=Var.put_hi m
      rw [← HLL.out,hkn] at hph
      rw [← hph,Var.ofNat_toNat (by omega)] at hs
      have hpl:(Var.put m).length=i:=by rw [Var.put_length_hi,HLL.out]
      have ha:=andNot_flag ⟨m % 128+128,by omega⟩
      have ha2:bits BinOp.andNot IntKind.u8 ((m:Int) % 128+128) 128=(m:Int) % 128:=by
       have e:((m:Int) % 128+128)=((m % 128+128:Nat):Int):=by push_cast;rfl
       rw [e,ha]
       show ((( m % 128+128) % 128:Nat):Int)=_
       omega
      rw [show ((m % 128:Nat):Int)=(m:Int) % 128 by omega] at hs
      have Hs:=Lib.hid hs
      have Hpl:=Lib.hid hpl
      have hk2:(k:Int)<i:=by omega
      have q0':wr.cell? ⟨g,k,none⟩=some (.int .u8 ((m:Int) % 128+128)):=by rw [q0];push_cast;rfl
      clear hrow hpe hget hs hph hpl ha q0 hkn hm0
      go_wp2_with (refine wpList_text_of rfl _ rfl g i cap rfl (Var.put m) Hpl.out Hs.out ?_)
      go_ret
      exact ⟨rfl,Hbel.out.setCell (p:=⟨g,k,none⟩) hgb _⟩
theorem get_none {s:ByteArray} {p:Nat} (h:s.size≤p):Var.get s.data.toList p=none:=by
 unfold Var.get
 have hl:s.data.toList.length=s.size:=by simp
 rw [List.drop_eq_nil_iff.2 (by omega)]
 split
 · rfl
 · rfl
def gotE (g:Option (Nat×Nat)):Ending:=match g with
 | none => .returned (.tuple #[.int .i64 0,.int .i64 0,.bool false])
 | some x => .returned (.tuple #[.int .i64 x.1,.int .i64 x.2,.bool true])
theorem i64_or_nat3 (a b:Nat) (ha:a<2 ^ 63) (hb:b<2 ^ 63):bits .or .i64 (a:Int) (b:Int)=((a ||| b:Nat):Int):=by
 have hx:a ||| b<2 ^ 63:=Nat.or_lt_two_pow ha hb
 show IntKind.i64.wrap ((BitVec.ofInt 64 (a:Int) ||| BitVec.ofInt 64 (b:Int)).toNat:Int)=_
 rw [BitVec.toNat_or,ofInt_u64 a (by omega),ofInt_u64 b (by omega)]
 exact IntWalk.i64_in _ ⟨by omega,by omega⟩
theorem acc_step (acc i:Nat) (c:UInt8) (hi:i≤8) (ha:acc<128 ^ i):bits BinOp.or IntKind.i64 (wrap64 (acc*128)) (wrap64 (bits BinOp.andNot IntKind.u8 (c.toNat) 128))=((acc*128+c.toNat % 128:Nat):Int):=by
 have h1:(128:Nat) ^ i≤128 ^ 8:=Nat.pow_le_pow_right (by decide) hi
 have h2:(128:Nat) ^ 8=72057594037927936:=by decide
 have hc:=c.toNat_lt
 have e:bits BinOp.andNot IntKind.u8 (c.toNat:Int) 128=((c.toNat % 128:Nat):Int):=andNot_flag ⟨c.toNat,by omega⟩
 rw [e]
 have e1:wrap64 ((acc:Int)*128)=((acc*128:Nat):Int):=by unfold wrap64;push_cast;omega
 have e2:wrap64 ((c.toNat % 128:Nat):Int)=((c.toNat % 128:Nat):Int):=by unfold wrap64;omega
 rw [e1,e2,i64_or_nat3 _ _ (by omega) (by omega),nat_join 7 _ _ (by omega) (by omega)]
theorem rd_step {k acc:Nat} {c:UInt8} {r:List UInt8}:Var.rd (k+1) acc (c::r)=if c.toNat<128 then some (acc*128+c.toNat,1) else (Var.rd k (acc*128+(c.toNat-128)) r).map fun p => (p.1,p.2+1):=by
 rw [Var.rd]
set_option maxHeartbeats 2000000 in
theorem get_any (s:ByteArray) (p:Nat) (w:World) (hs:s.size≤maxLen) (hp:p≤9223372036854775807) :
  Calls Tryz.prog 145 #[.string s,.int .i64 p] w fun e w' => e=gotE (Var.get s.data.toList p)∧w=w':=by
 have hsm:s.size≤9223372036854775807:=by unfold maxLen at hs;omega
 have hl:s.data.toList.length=s.size:=by simp
 by_cases hin:p<s.size
 · have h0:s.data.toList[p]?=some s[p]:=by rw [List.getElem?_eq_getElem (by omega)];rfl
   obtain ⟨c0,hc0⟩:∃ c0,s[p]=c0:=⟨_,rfl⟩
   have hpi:(p:Int)<s.size:=by omega
   by_cases h128:c0=128
   · have hg:Var.get s.data.toList p=none:=by unfold Var.get;rw [if_pos (by rw [h0,hc0,h128])]
     rw [hg]
     unfold gotE
     clear hg h0 hs hl
     go_enter Tryz.func145,Tryz.ntmps145
     go_wp2_with fail
     go_ret3
     exact ⟨rfl,rfl⟩
   · have hg:Var.get s.data.toList p=(Var.rd 9 0 (s.data.toList.drop p)).map fun x => (x.1,p+x.2):=by
      unfold Var.get
      rw [if_neg (by rw [h0,hc0];exact fun e => h128 (Option.some.inj e))]
     rw [hg]
     have q128:(c0.toNat:Int)≠128:=fun e => h128 (UInt8.toNat_inj.1 (by show c0.toNat=128;omega))
     have q128':((c0.toNat:Int) == 128)=false:=by rw [beq_eq_false_iff_ne];exact q128
     obtain ⟨m,hm⟩:∃ m:Nat,min (9:Int) ((s.size:Int)-p)=m:=⟨(min (9:Int) ((s.size:Int)-p)).toNat,by omega⟩
     have hm9:m≤9∧m≤s.size-p:=by omega
     have hmm:m=9∨p+m=s.size:=by omega
     obtain ⟨R,hR⟩:∃ R,R=Var.rd 9 0 (s.data.toList.drop p):=⟨_,rfl⟩
     rw [← hR]
     have HR:=Lib.hid hR
     have Hl:=Lib.hid hl
     have Hmm:=Lib.hid hmm
     clear hg h0 hs hl hR h128 q128 hmm
     go_enter Tryz.func145,Tryz.ntmps145
     go_wp2_with fail
     clear hm q128' hc0
     go_loopw [4,7,8,28] (fun v4 _ _ v28 wr => ∃ i acc:Nat,v28=.int .i64 i∧v4=.int .i64 acc∧i≤m∧acc<128 ^ i∧wr=w∧R=(Var.rd (9-i) acc (s.data.toList.drop (p+i))).map fun x => (x.1,x.2+i)) (fun _ _ _ v28 _ => m-(intOf v28).toNat)
     case atStart =>
      refine ⟨0,0,rfl,rfl,Nat.zero_le _,by decide,rfl,?_⟩
      rw [HR.out]
      simp
     case round =>
      obtain ⟨i,acc,rfl,rfl,hi,hacc,rfl,hr⟩:=hrel
      have Hr:=Lib.hid hr
      clear hr
      by_cases hlt:i<m
      · have hpi2:p+i<s.size:=by omega
        have hpi3:(p:Int)+i<s.size:=by omega
        obtain ⟨c,hc⟩:∃ c,s[p+i]=c:=⟨_,rfl⟩
        have Hd:=Lib.hid (show s.data.toList.drop (p+i)=c::s.data.toList.drop (p+i+1) from by
         rw [List.drop_eq_getElem_cons (by rw [Hl.out];exact hpi2)]
         congr 1)
        have hc256:=c.toNat_lt
        have Ha:=Lib.hid (acc_step acc i c (by omega) hacc)
        have hi2:(i:Int)<m:=by omega
        have hr2:=Hr.out
        rw [Hd.out,show 9-i=(8-i)+1 by omega,rd_step] at hr2
        have Hr2:=Lib.hid hr2
        clear hr2
        have HP:=Lib.hid (show acc*128+c.toNat % 128<128 ^ (i+1) by rw [Nat.pow_succ];have:=Nat.mod_lt c.toNat (show 0<128 by decide);omega)
        clear hacc
        have hpt:((p:Int)+i).toNat=p+i:=by omega
        have hp0:(0:Int)≤(p:Int)+i:=by omega
        by_cases hc1:c.toNat<128
        · have hr3:=Hr2.out
          rw [if_pos hc1] at hr3
          have q:decide ((c.toNat:Int)<128)=true:=decide_eq_true (by omega)
          have q':decide (c.toNat<128)=true:=decide_eq_true hc1
          have Hr3:=Lib.hid hr3
          clear hr3
          go_wp2_with fail
          go_ret3
          rw [Hr3.out,Ha.out,Nat.mod_eq_of_lt hc1]
          refine ⟨?_,rfl⟩
          simp [gotE]
          omega
        · have hr3:=Hr2.out
          rw [if_neg hc1] at hr3
          have q:decide ((c.toNat:Int)<128)=false:=decide_eq_false (by omega)
          have q':decide (c.toNat<128)=false:=decide_eq_false hc1
          have Hr3:=Lib.hid hr3
          clear hr3
          go_wp2_with fail
          go_roundw
          case rel =>
           refine ⟨i+1,acc*128+c.toNat % 128,by go_num,by rw [Ha.out],by omega,HP.out,by trivial,?_⟩
           rw [Hr3.out,show 9-(i+1)=8-i by omega,show p+(i+1)=p+i+1 by omega,show c.toNat % 128=c.toNat-128 by omega]
           cases Var.rd (8-i) (acc*128+(c.toNat-128)) (s.data.toList.drop (p+i+1)) with
           | none => rfl
           | some y => simp only [Option.map_some];rw [show y.2+1+i=y.2+(i+1) by omega]
          case measure => simp [intOf];omega
      · obtain rfl:i=m:=by omega
        have hRn:R=none:=by
         rw [Hr.out]
         rcases Hmm.out with e | e
         · rw [e];rfl
         · rw [List.drop_eq_nil_iff.2 (by rw [Hl.out];omega)]
           cases 9-i <;> rfl
        have HRn:=Lib.hid hRn
        clear hRn
        go_wp2_with fail
        go_ret3
        rw [HRn.out]
        exact ⟨rfl,rfl⟩
 · rw [get_none (by omega)]
   unfold gotE
   have q:decide ((p:Int)<s.size)=false:=decide_eq_false (by omega)
   have q1:(s.size:Int)≤p:=by omega
   clear hs hl
   go_enter Tryz.func145,Tryz.ntmps145
   go_wp2_with fail
   go_ret3
   exact ⟨rfl,rfl⟩
end Go.Proofs.YtdacanghbepjpaaGreatDoor
